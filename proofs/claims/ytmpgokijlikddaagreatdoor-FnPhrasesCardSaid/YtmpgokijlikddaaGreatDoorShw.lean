/- SharedWords as a whole: the program's and the reference's functions return what the plain function says. Conditions: lengths that a machine can hold; how the lists lie. -/
import Derived.Test.YtmpgokijlikddaaGreatDoorShr
namespace Go.Proofs.YtmpgokijlikddaaGreatDoor
open Go.RowKit
theorem shF_T {a b : List (List UInt8)} (h1 : phB a = true) (h2 : phB b = true) : shF a b = (((shN a b : Nat) : Int), 0) := by unfold shF; rw [h1, h2]; rfl
theorem shF_1 {a b : List (List UInt8)} (h1 : phB a = false) : shF a b = (0, 1) := by unfold shF; rw [h1]; rfl
theorem shF_2 {a b : List (List UInt8)} (h2 : phB b = false) : shF a b = (0, 1) := by unfold shF; rw [h2, Bool.and_false]; rfl
theorem s_SharedWords {b1 b2 : Nat} {v1 v2 : Value} {a b : List (List UInt8)} (w : World) (h1 : OwnS w b1 v1 a) (h2 : OwnS w b2 v2 b) (hx : ∀ j, (a.getD j []).length ≤ 9223372036854775807) (hy : ∀ j, (b.getD j []).length ≤ 9223372036854775807) :
    Calls Tryz.prog 41 #[v1, v2] w fun e w' => e = .returned (.tuple #[.int .i64 (shF a b).1, .int .i64 (shF a b).2]) ∧ Below w.heap.size w w' := by
  have c1 := s_phrase w h1 hx
  have c2 := s_phrase w h2 hy
  cases pa : phB a with
  | false =>
    rw [shF_1 pa]
    have C1 := Lib.hid (toB c1 pa)
    clear c1 c2 h1 h2 hx hy pa
    go_enter Tryz.func41, Tryz.ntmps41
    go_wp2_with fail
    refine C1.out.mono ?_
    rintro e w1 ⟨rfl, rfl⟩
    go_wp2_with fail
    go_ret2
    exact ⟨rfl, Below.refl _ _⟩
  | true =>
    have C1 := Lib.hid (toB c1 pa)
    cases pb : phB b with
    | false =>
      rw [shF_2 pb]
      have C2 := Lib.hid (toB c2 pb)
      clear c1 c2 h1 h2 hx hy pa pb
      go_enter Tryz.func41, Tryz.ntmps41
      go_wp2_with fail
      refine C1.out.mono ?_
      rintro e w1 ⟨rfl, rfl⟩
      go_wp2_with fail
      refine C2.out.mono ?_
      rintro e w1 ⟨rfl, rfl⟩
      go_wp2_with fail
      go_ret2
      exact ⟨rfl, Below.refl _ _⟩
    | true =>
      rw [shF_T pa pb]
      have C2 := Lib.hid (toB c2 pb)
      have C3 := Lib.hid (s_shared w h1 h2 pa pb)
      obtain ⟨n, hn⟩ : ∃ n : Nat, shN a b = n := ⟨_, rfl⟩
      rw [hn] at C3 ⊢
      clear c1 c2 h1 h2 hx hy pa pb hn
      go_enter Tryz.func41, Tryz.ntmps41
      go_wp2_with fail
      refine C1.out.mono ?_
      rintro e w1 ⟨rfl, rfl⟩
      go_wp2_with fail
      refine C2.out.mono ?_
      rintro e w1 ⟨rfl, rfl⟩
      go_wp2_with fail
      refine C3.out.mono ?_
      rintro e w1 ⟨⟨z, rfl⟩, hb⟩
      go_wp2_with fail
      go_ret2
      exact ⟨rfl, hb⟩
theorem i_SharedWords {b1 b2 : Nat} {v1 v2 : Value} {a b : List (List UInt8)} (w : World) (h1 : OwnS w b1 v1 a) (h2 : OwnS w b2 v2 b) (hx : ∀ j, (a.getD j []).length ≤ 9223372036854775807) (hy : ∀ j, (b.getD j []).length ≤ 9223372036854775807) :
    Calls Tryz.prog 40 #[v1, v2] w fun e w' => e = .returned (.tuple #[.int .i64 (shF a b).1, .int .i64 (shF a b).2]) ∧ Below w.heap.size w w' := by
  have c1 := i_isPhrase w h1 hx
  have c2 := fun W (hW : Below w.heap.size w W) => i_isPhrase W (h2.below hW) hy
  cases pa : phB a with
  | false =>
    rw [shF_1 pa]
    have C1 := Lib.hid (toBelowB c1 pa)
    clear c1 c2 h1 h2 hx hy pa
    go_enter Tryz.func40, Tryz.ntmps40
    go_wp2_with fail
    refine C1.out.mono ?_
    rintro e w1 ⟨rfl, L⟩
    go_wp2_with fail
    go_ret2
    exact ⟨rfl, L⟩
  | true =>
    cases pb : phB b with
    | false =>
      rw [shF_2 pb]
      have C1 := Lib.hid (toBelowB c1 pa)
      have C2 := Lib.hid (fun W hW => toBelowB (c2 W hW) pb)
      clear c1 c2 h1 h2 hx hy pa pb
      go_enter Tryz.func40, Tryz.ntmps40
      go_wp2_with fail
      refine C1.out.mono ?_
      rintro e w1 ⟨rfl, L⟩
      go_wp2_with fail
      refine (C2.out _ L).mono ?_
      rintro e w2 ⟨rfl, hb⟩
      go_wp2_with fail
      go_ret2
      exact ⟨rfl, below_step L hb⟩
    | true =>
      rw [shF_T pa pb]
      exact i_SharedT w h1 h2 pa pb hx hy
end Go.Proofs.YtmpgokijlikddaaGreatDoor
