/- The styles in which a day is in a year: the program's and the reference's functions return what the plain function says. No condition. -/
import Derived.Test.YtnoeakhhokbikaaDoorYearOn
import Derived.Test.YtnoeakhhokbikaaDoorSlices
import Derived.Laws.Entries
namespace Go.Proofs.YtnoeakhhokbikaaDoor
open Go.RowKit
def stHit (n y s : Int) : Bool := (yrOn s n).2 && decide ((yrOn s n).1 = y)
def stl (n y : Int) : Nat → List Int
  | 0 => []
  | s + 1 => stl n y s ++ (if stHit n y s then [(s : Int)] else [])
theorem stl_len (n y : Int) (s : Nat) : (stl n y s).length ≤ s := by
  induction s with
  | zero => simp [stl]
  | succ s ih => simp only [stl, List.length_append]; split <;> simp <;> omega
def stF (n y : Int) : List Int × Int := if inB n 0 730499 && inB y 2 1999 then (stl n y 7, 0) else ([], 2)
theorem stF_len (n y : Int) : (stF n y).1.length ≤ 7 := by
  unfold stF
  split
  · exact stl_len n y 7
  · simp
set_option maxHeartbeats 800000 in
theorem s_StylesFor (n y : Int) (w : World) : Calls Tryd.prog 16 #[.int .i64 n, .int .i64 y] w fun e w' => ∃ v, e = .returned (.tuple #[v, .int .i64 (stF n y).2]) ∧ OwnI w' w.heap.size v (stF n y).1 ∧ Below w.heap.size w w' := by
  by_cases hn : inB n 0 730499 = true
  · by_cases hy : inB y 2 1999 = true
    · obtain ⟨h0, h1⟩ := inB_iff.1 hn
      have hF : stF n y = (stl n y 7, 0) := by simp [stF, hn, hy]
      rw [hF]; clear hF
      go_enter Tryd.func16, Tryd.ntmps16
      go_wp2_with (first | (go_at_call 61; refine (toB (s_styear _ _) (by assumption)).mono ?_; rintro e w' ⟨rfl, rfl⟩) | (go_at_call 56; refine (toB (s_day _ _) (by assumption)).mono ?_; rintro e w' ⟨rfl, rfl⟩))
      go_loopw [6, 7] (fun v i wr => ∃ k : Nat, k ≤ 7 ∧ i = .int .i64 k ∧ OwnI wr w.heap.size v (stl n y k) ∧ Below w.heap.size w wr) (fun _ i _ => 7 - (intOf i).toNat)
      case atStart => exact ⟨0, by omega, rfl, OwnI.lit0 w, below_alloc _ _⟩
      case round =>
        obtain ⟨k, hk, rfl, hown, hB⟩ := hrel
        have hlen := stl_len n y k
        have hw := hB.size
        by_cases hlt : k < 7
        · have con := s_yrOn k n wr (inB_mk (by omega) (by omega)) h0 h1
          have hs : stl n y (k + 1) = stl n y k ++ (if stHit n y k then [(k : Int)] else []) := rfl
          unfold stHit at hs
          obtain ⟨p, hp⟩ : ∃ p, yrOn k n = p := ⟨_, rfl⟩
          rw [hp] at con hs
          clear hp
          obtain ⟨x, b⟩ := p
          have CON := Lib.hid con; clear con
          cases b
          · simp only [Bool.false_and, Bool.false_eq_true, if_false, List.append_nil] at hs
            have HS := Lib.hid hs; clear hs
            go_wp2_with fail
            refine CON.out.mono ?_
            rintro e w1 ⟨rfl, hb⟩
            go_wp2_with fail
            go_roundw
            case rel => exact ⟨k + 1, by omega, by go_num, by rw [HS.out]; exact hown.below hb, hB.trans (hb.mono hw)⟩
            case measure => simp [intOf]; omega
          · by_cases hxy : x = y
            · subst hxy
              simp only [Bool.true_and, decide_true, if_true] at hs
              have HS := Lib.hid hs; clear hs
              go_wp2_with fail
              refine CON.out.mono ?_
              rintro e w1 ⟨rfl, hb⟩
              have hown1 := hown.below hb
              have hw1 := hb.size
              clear hown
              go_wp2_with (at_builtin; refine wpList_appI rfl _ _ rfl _ _ _ _ _ rfl hown1 rfl (by omega) (by omega) ?_; intro v' w2 hown2 hg2)
              go_roundw
              case rel => exact ⟨k + 1, by omega, by go_num, by rw [HS.out]; exact hown2, hown1.below_grown (hB.trans (hb.mono hw)) hg2 (by omega)⟩
              case measure => simp [intOf]; omega
            · have hxy' : (x == y) = false := by simpa using hxy
              simp only [Bool.true_and, decide_eq_true_eq, hxy, if_false, List.append_nil] at hs
              have HS := Lib.hid hs; clear hs hxy
              go_wp2_with fail
              refine CON.out.mono ?_
              rintro e w1 ⟨rfl, hb⟩
              go_wp2_with fail
              go_roundw
              case rel => exact ⟨k + 1, by omega, by go_num, by rw [HS.out]; exact hown.below hb, hB.trans (hb.mono hw)⟩
              case measure => simp [intOf]; omega
        · obtain rfl : k = 7 := by omega
          go_wp2_with fail
          go_ret2
          exact ⟨_, rfl, hown, hB⟩
    · have hy' : inB y 2 1999 = false := by simpa using hy
      have hF : stF n y = ([], 2) := by simp [stF, hy']
      rw [hF]; clear hF hy
      go_enter Tryd.func16, Tryd.ntmps16
      go_wp2_with (first | (go_at_call 61; refine (toB (s_styear _ _) (by assumption)).mono ?_; rintro e w' ⟨rfl, rfl⟩) | (go_at_call 56; refine (toB (s_day _ _) (by assumption)).mono ?_; rintro e w' ⟨rfl, rfl⟩))
      go_ret2
      exact ⟨_, rfl, OwnI.nil _ _, Below.refl _ _⟩
  · have hn' : inB n 0 730499 = false := by simpa using hn
    have hF : stF n y = ([], 2) := by simp [stF, hn']
    rw [hF]; clear hF hn
    go_enter Tryd.func16, Tryd.ntmps16
    go_wp2_with (first | (go_at_call 61; refine (toB (s_styear _ _) (by assumption)).mono ?_; rintro e w' ⟨rfl, rfl⟩) | (go_at_call 56; refine (toB (s_day _ _) (by assumption)).mono ?_; rintro e w' ⟨rfl, rfl⟩))
    go_ret2
    exact ⟨_, rfl, OwnI.nil _ _, Below.refl _ _⟩
set_option maxHeartbeats 800000 in
theorem i_StylesFor (n y : Int) (w : World) : Calls Tryd.prog 15 #[.int .i64 n, .int .i64 y] w fun e w' => ∃ v, e = .returned (.tuple #[v, .int .i64 (stF n y).2]) ∧ OwnI w' w.heap.size v (stF n y).1 ∧ Below w.heap.size w w' := by
  by_cases hn : inB n 0 730499 = true
  · by_cases hy : inB y 2 1999 = true
    · obtain ⟨h0, h1⟩ := inB_iff.1 hn
      have hF : stF n y = (stl n y 7, 0) := by simp [stF, hn, hy]
      rw [hF]; clear hF
      go_enter Tryd.func15, Tryd.ntmps15
      go_wp2_with (first | (go_at_call 60; refine (toB (i_styear _ _) (by assumption)).mono ?_; rintro e w' ⟨rfl, rfl⟩) | (go_at_call 53; refine (toB (i_day _ _) (by assumption)).mono ?_; rintro e w' ⟨rfl, rfl⟩))
      go_loopw [6, 7] (fun v i wr => ∃ k : Nat, k ≤ 7 ∧ i = .int .i64 k ∧ OwnI wr w.heap.size v (stl n y k) ∧ Below w.heap.size w wr) (fun _ i _ => 7 - (intOf i).toNat)
      case atStart => exact ⟨0, by omega, rfl, OwnI.lit0 w, below_alloc _ _⟩
      case round =>
        obtain ⟨k, hk, rfl, hown, hB⟩ := hrel
        have hlen := stl_len n y k
        have hw := hB.size
        by_cases hlt : k < 7
        · have con := i_yrOn k n wr (inB_mk (by omega) (by omega)) h0 h1
          have hs : stl n y (k + 1) = stl n y k ++ (if stHit n y k then [(k : Int)] else []) := rfl
          unfold stHit at hs
          obtain ⟨p, hp⟩ : ∃ p, yrOn k n = p := ⟨_, rfl⟩
          rw [hp] at con hs
          clear hp
          obtain ⟨x, b⟩ := p
          have CON := Lib.hid con; clear con
          cases b
          · simp only [Bool.false_and, Bool.false_eq_true, if_false, List.append_nil] at hs
            have HS := Lib.hid hs; clear hs
            go_wp2_with fail
            refine CON.out.mono ?_
            rintro e w1 ⟨rfl, hb⟩
            go_wp2_with fail
            go_roundw
            case rel => exact ⟨k + 1, by omega, by go_num, by rw [HS.out]; exact hown.below hb, hB.trans (hb.mono hw)⟩
            case measure => simp [intOf]; omega
          · by_cases hxy : x = y
            · subst hxy
              simp only [Bool.true_and, decide_true, if_true] at hs
              have HS := Lib.hid hs; clear hs
              go_wp2_with fail
              refine CON.out.mono ?_
              rintro e w1 ⟨rfl, hb⟩
              have hown1 := hown.below hb
              have hw1 := hb.size
              clear hown
              go_wp2_with (at_builtin; refine wpList_appI rfl _ _ rfl _ _ _ _ _ rfl hown1 rfl (by omega) (by omega) ?_; intro v' w2 hown2 hg2)
              go_roundw
              case rel => exact ⟨k + 1, by omega, by go_num, by rw [HS.out]; exact hown2, hown1.below_grown (hB.trans (hb.mono hw)) hg2 (by omega)⟩
              case measure => simp [intOf]; omega
            · have hxy' : (x == y) = false := by simpa using hxy
              simp only [Bool.true_and, decide_eq_true_eq, hxy, if_false, List.append_nil] at hs
              have HS := Lib.hid hs; clear hs hxy
              go_wp2_with fail
              refine CON.out.mono ?_
              rintro e w1 ⟨rfl, hb⟩
              go_wp2_with fail
              go_roundw
              case rel => exact ⟨k + 1, by omega, by go_num, by rw [HS.out]; exact hown.below hb, hB.trans (hb.mono hw)⟩
              case measure => simp [intOf]; omega
        · obtain rfl : k = 7 := by omega
          go_wp2_with fail
          go_ret2
          exact ⟨_, rfl, hown, hB⟩
    · have hy' : inB y 2 1999 = false := by simpa using hy
      have hF : stF n y = ([], 2) := by simp [stF, hy']
      rw [hF]; clear hF hy
      go_enter Tryd.func15, Tryd.ntmps15
      go_wp2_with (first | (go_at_call 60; refine (toB (i_styear _ _) (by assumption)).mono ?_; rintro e w' ⟨rfl, rfl⟩) | (go_at_call 53; refine (toB (i_day _ _) (by assumption)).mono ?_; rintro e w' ⟨rfl, rfl⟩))
      go_ret2
      exact ⟨_, rfl, OwnI.nil _ _, Below.refl _ _⟩
  · have hn' : inB n 0 730499 = false := by simpa using hn
    have hF : stF n y = ([], 2) := by simp [stF, hn']
    rw [hF]; clear hF hn
    go_enter Tryd.func15, Tryd.ntmps15
    go_wp2_with (first | (go_at_call 60; refine (toB (i_styear _ _) (by assumption)).mono ?_; rintro e w' ⟨rfl, rfl⟩) | (go_at_call 53; refine (toB (i_day _ _) (by assumption)).mono ?_; rintro e w' ⟨rfl, rfl⟩))
    go_ret2
    exact ⟨_, rfl, OwnI.nil _ _, Below.refl _ _⟩
end Go.Proofs.YtnoeakhhokbikaaDoor
