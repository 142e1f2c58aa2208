/- The first index of a text in a list of words: the reference's l01Text and the library's slices.Index return what the plain function says. No condition. -/
import Derived.Test.YtmpgokijlikddaaGreatDoorStrs
import Derived.Test.YtmpgokijlikddaaGreatDoorMax
namespace Go.Proofs.YtmpgokijlikddaaGreatDoor
open Go.RowKit
def mkB (x : List UInt8) : ByteArray := ⟨x.toArray⟩
theorem mkB_inj {x y : List UInt8} (h : mkB x = mkB y) : x = y := by
  have := congrArg (fun s : ByteArray => s.data.toList) h
  simpa [mkB] using this
/-- a string as a list of bytes -/
theorem str_list (s : ByteArray) : ∃ x : List UInt8, s = ⟨x.toArray⟩ ∧ x.length = s.size := ⟨s.data.toList, by simp, rfl⟩
theorem ret_intX {k : IntKind} {a b : Int} (h : a = b) : Ending.returned (.int k a) = .returned (.int k b) := by rw [h]
/-- the first place of x in l, -1 if there is none -/
def idxL (l : List (List UInt8)) (x : List UInt8) : Int := Lib.idxOfS (l.map mkB) (mkB x)
theorem getD_mk (l : List (List UInt8)) (j : Nat) : (l.map mkB).getD j ByteArray.empty = mkB (l.getD j []) := by
  simp only [List.getD_eq_getElem?_getD, List.getElem?_map]
  cases l[j]? <;> rfl
theorem idxL_hit {l : List (List UInt8)} {x : List UInt8} {k : Nat} (hk : k < l.length) (h : l.getD k [] = x) (hne : ∀ j, j < k → l.getD j [] ≠ x) : idxL l x = k := by
  have := Lib.idxOfS_hit (l.map mkB) l.length k (mkB x) hk (by simp) (by rw [getD_mk, h]) (fun j hj => by rw [getD_mk]; exact fun e => hne j hj (mkB_inj e))
  rwa [List.take_of_length_le (by simp)] at this
theorem idxL_miss {l : List (List UInt8)} {x : List UInt8} (hne : ∀ j, j < l.length → l.getD j [] ≠ x) : idxL l x = -1 := by
  have := Lib.idxOfS_miss (l.map mkB) l.length (mkB x) (fun j hj => by rw [getD_mk]; exact fun e => hne j hj (mkB_inj e))
  rwa [List.take_of_length_le (by simp)] at this
theorem idxL_cases (l : List (List UInt8)) (x : List UInt8) : idxL l x = -1 ∨ ∃ k : Nat, k < l.length ∧ idxL l x = k ∧ l.getD k [] = x := by
  by_cases h : ∃ j, j < l.length ∧ l.getD j [] = x
  · have : ∃ k, k < l.length ∧ l.getD k [] = x ∧ ∀ j, j < k → ¬ (j < l.length ∧ l.getD j [] = x) := by
      obtain ⟨j, hj⟩ := h
      induction j using Nat.strongRecOn with
      | _ j ih =>
        by_cases he : ∃ i, i < j ∧ i < l.length ∧ l.getD i [] = x
        · obtain ⟨i, hi, h2⟩ := he
          exact ih i hi h2
        · exact ⟨j, hj.1, hj.2, fun i hi h2 => he ⟨i, hi, h2⟩⟩
    obtain ⟨k, hk, he, hne⟩ := this
    exact .inr ⟨k, hk, idxL_hit hk he (fun j hj e => hne j hj ⟨by omega, e⟩), he⟩
  · exact .inl (idxL_miss fun j hj e => h ⟨j, hj, e⟩)
theorem i_sindex {b : Nat} {v : Value} {l : List (List UInt8)} (x : List UInt8) (w : World) (h : OwnS w b v l) :
    Calls Tryz.prog 125 #[v, .string ⟨x.toArray⟩] w fun e w' => e = .returned (.int .i64 (idxL l x)) ∧ w = w' := by
  obtain ⟨hl, A, c, rfl, p⟩ := h.opened
  have P := Lib.hid p; clear p h
  have hhit := fun k hk => idxL_hit (l := l) (x := x) (k := k) hk
  have hmiss := idxL_miss (l := l) (x := x)
  have HH := Lib.hid hhit; clear hhit
  have HM := Lib.hid hmiss; clear hmiss
  obtain ⟨n, hn⟩ : ∃ n, l.length = n := ⟨_, rfl⟩
  rw [hn] at hl P HH HM ⊢
  clear hn
  go_enter Tryz.func125, Tryz.ntmps125
  go_wp2
  go_loop [8] (fun i => ∃ k : Nat, k ≤ n ∧ i = .int .i64 k ∧ Hid (∀ j, j < k → l.getD j [] ≠ x)) (fun i => n - (intOf i).toNat)
  case atStart => exact ⟨0, by omega, rfl, fun j hj => absurd hj (by omega)⟩
  case round =>
    obtain ⟨k, hk, rfl, HN⟩ := hrel
    by_cases hlt : k < n
    · obtain ⟨g1, rfl, _, _, hc1, _⟩ := P.out (by omega)
      have c1 := hc1 k hlt
      clear hc1
      obtain ⟨y, hy⟩ : ∃ y, l.getD k [] = y := ⟨_, rfl⟩
      rw [hy] at c1
      have HY := Lib.hid hy; clear hy
      by_cases he : y = x
      · subst he
        have hr := HH.out k hlt HY.out HN.out
        have HR := Lib.hid hr; clear hr
        go_wp2
        go_ret
        exact ⟨ret_intX HR.out.symm, rfl⟩
      · have HE := Lib.hid he
        have hb : (x == y) = false := by simpa using Ne.symm he
        clear he
        go_wp2
        go_round
        case rel => exact ⟨k + 1, by omega, by go_num, fun j hj e => by
          rcases Nat.lt_or_ge j k with h | h
          · exact HN.out j h e
          · obtain rfl : j = k := by omega
            exact HE.out (HY.out.symm.trans e)⟩
        case measure => simp [intOf]; omega
    · have hr := HM.out (fun j hj => HN.out j (by omega))
      have HR := Lib.hid hr; clear hr
      go_wp2
      go_ret
      exact ⟨ret_intX HR.out.symm, rfl⟩
end Go.Proofs.YtmpgokijlikddaaGreatDoor
