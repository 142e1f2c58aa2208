/- SplitPhrase: the reference's function returns what the plain function says. Condition: a text that is not too long. -/
import Derived.Test.YtmpgokijlikddaaGreatDoorSplit
namespace Go.Proofs.YtmpgokijlikddaaGreatDoor
open Go.RowKit
theorem s_SplitPhrase (x : List UInt8) (w : World) (hx : x.length ≤ 1048576) : Calls Tryz.prog 38 #[.string ⟨x.toArray⟩] w fun e w' => ∃ v, e = .returned (.tuple #[v, .int .i64 (spF x).2]) ∧ OwnS w' w.heap.size v (spF x).1 ∧ Below w.heap.size w w' := by
  have con := s_split x w hx
  cases x with
  | nil =>
    have hF : spF [] = ([], 0) := rfl
    rw [hF]
    clear con
    go_enter Tryz.func38, Tryz.ntmps38
    go_wp2_with fail
    go_ret2
    exact ⟨_, rfl, by simpa using OwnS.lit w w.heap.size #[] [] rfl (Nat.le_refl _) (by unfold maxLen; simp), below_alloc _ _⟩
  | cons c0 x0 =>
    have hne : (c0 :: x0) ≠ [] := by simp
    obtain ⟨x, hxx⟩ : ∃ x, c0 :: x0 = x := ⟨_, rfl⟩
    rw [hxx] at con hx hne ⊢
    have hse := spl_each 32 x
    have hse' : ∀ i, ((spl 32 x).getD i []).length ≤ 9223372036854775807 := fun i => by
      by_cases hi : i < (spl 32 x).length
      · have := hse (spl 32 x)[i] (List.getElem_mem hi)
        rw [show (spl 32 x).getD i [] = (spl 32 x)[i] by simp [List.getD, hi]]; omega
      · rw [List.getD_eq_getElem?_getD, List.getElem?_eq_none (by omega)]; simp
    have con2 := fun (b : Nat) (v : Value) W (h : OwnS W b v (spl 32 x)) => s_phrase W h hse'
    have he0 : x.isEmpty = false := by rw [← hxx]; rfl
    cases hp : phB (spl 32 x) with
    | true =>
      have hF : spF x = (spl 32 x, 0) := by unfold spF; rw [if_neg hne, hp]; rfl
      rw [hF]
      have con3 := fun b v W h => toB (con2 b v W h) hp
      have CON := Lib.hid con
      have CON2 := Lib.hid con3
      obtain ⟨l, hl⟩ : ∃ l, spl 32 x = l := ⟨_, rfl⟩
      rw [hl] at CON CON2 ⊢
      clear con con2 con3 hse hse' hp hl hF hxx
      go_enter Tryz.func38, Tryz.ntmps38
      go_wp2_with fail
      refine CON.out.mono ?_
      rintro e w1 ⟨v, rfl, ho, hb⟩
      obtain ⟨hl0, A0, c1, rfl, _⟩ := ho.opened
      go_wp2_with fail
      refine (CON2.out _ _ _ ho).mono ?_
      rintro e w2 ⟨rfl, rfl⟩
      go_wp2_with fail
      go_ret2
      exact ⟨_, rfl, ho, hb⟩
    | false =>
      have hF : spF x = ([], 6) := by unfold spF; rw [if_neg hne, hp]; rfl
      rw [hF]
      have con3 := fun b v W h => toB (con2 b v W h) hp
      have CON := Lib.hid con
      have CON2 := Lib.hid con3
      obtain ⟨l, hl⟩ : ∃ l, spl 32 x = l := ⟨_, rfl⟩
      rw [hl] at CON CON2
      clear con con2 con3 hse hse' hp hl hF hxx
      go_enter Tryz.func38, Tryz.ntmps38
      go_wp2_with fail
      refine CON.out.mono ?_
      rintro e w1 ⟨v, rfl, ho, hb⟩
      obtain ⟨hl0, A0, c1, rfl, _⟩ := ho.opened
      go_wp2_with fail
      refine (CON2.out _ _ _ ho).mono ?_
      rintro e w2 ⟨rfl, rfl⟩
      go_wp2_with fail
      go_ret2
      exact ⟨_, rfl, OwnS.nil _ _, hb⟩
end Go.Proofs.YtmpgokijlikddaaGreatDoor
