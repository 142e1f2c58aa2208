/- The styles of the year: the begin and the span of a year, Easter by the old rule: the program's and the reference's functions return what the plain functions say. Conditions: the bounds that stand in the theorems. -/
import Derived.Test.YtmpgokijlikddaaGreatDoorNum
namespace Go.Proofs.YtmpgokijlikddaaGreatDoor
open Go.RowKit
def eP (y : Int) : Int := (19 * (y % 19) + 15) % 30
def eS (y : Int) : Int := eP y + (2 * (y % 4) + 4 * (y % 7) - eP y + 34) % 7 + 114
theorem eS_bd (y : Int) : 114 ≤ eS y ∧ eS y ≤ 149 := by unfold eS eP; omega
def easter (y : Int) : Int := num y (eS y / 31) (eS y % 31 + 1)
def beg (s y : Int) : Int :=
  if s = 1 then num y 3 1 else if s = 2 then num y 3 25 else if s = 3 then num (y - 1) 3 25 else if s = 4 then easter y else if s = 5 then num (y - 1) 12 25 else if s = 6 then num (y - 1) 9 1 else num y 1 1
theorem cum3 (y : Int) : cum y 3 = lp y + 59 := by simp [cum]
theorem cum4 (y : Int) : cum y 4 = lp y + 90 := by simp [cum]
theorem cum9 (y : Int) : cum y 9 = lp y + 243 := by simp [cum]
theorem cum12 (y : Int) : cum y 12 = lp y + 334 := by simp [cum]
theorem easter_bd (y : Int) : nyear y + 80 ≤ easter y ∧ easter y ≤ nyear y + 116 := by
  have h := eS_bd y
  have l := lp_01 y
  unfold easter num
  by_cases h3 : eS y / 31 = 3
  · rw [h3, cum3]; omega
  · have h4 : eS y / 31 = 4 := by omega
    rw [h4, cum4]; omega
theorem nyear_pred (y : Int) : nyear y = nyear (y - 1) + 365 + lp (y - 1) := by have := nyear_succ (y - 1); rwa [Int.sub_add_cancel] at this
theorem beg_bd (s y : Int) : nyear y - 300 ≤ beg s y ∧ beg s y ≤ nyear y + 116 := by
  have l := lp_01 y
  have l' := lp_01 (y - 1)
  have e := easter_bd y
  have p := nyear_pred y
  unfold beg num
  simp only [cum3, cum12, cum9, cum_one]
  repeat' split
  all_goals omega
theorem beg_mono (s y : Int) : beg s y + 300 ≤ beg s (y + 1) := by
  have l := lp_01 y
  have l' := lp_01 (y - 1)
  have l2 := lp_01 (y + 1)
  have e := easter_bd y
  have e' := easter_bd (y + 1)
  have p := nyear_pred y
  have q := nyear_succ y
  unfold beg num
  simp only [cum3, cum12, cum9, cum_one, Int.add_sub_cancel]
  repeat' split
  all_goals omega
theorem s_l04Old (y : Int) (w : World) (h0 : 0 ≤ y) (h1 : y ≤ 100000) : Calls Tryz.prog 259 #[.int .i64 y] w fun e w' => e = .returned (.agg #[.int .i64 y, .int .i64 (eS y / 31), .int .i64 (eS y % 31 + 1)]) ∧ Below w.heap.size w w' := by
  have h := eS_bd y
  unfold eS eP at *
  go_enter Tryz.func259, Tryz.ntmps259
  go_wp2
  refine bodyPost_ret (v := _) (by simp only [results, Tryz.results259]; simp [go_sem]) rfl ⟨rfl, ?_⟩
  exact below_alloc _ _
theorem i_easter (y : Int) (w : World) (h0 : 1 ≤ y) (h1 : y ≤ 100000) : Calls Tryz.prog 262 #[.int .i64 y] w fun e w' => e = .returned (.int .i64 (easter y)) ∧ Below w.heap.size w w' := by
  have h := eS_bd y
  unfold easter
  unfold eS eP at *
  go_enter Tryz.func262, Tryz.ntmps262
  go_wp2_with (go_at_call 292; refine (i_moon _ _ (by omega) h1).mono ?_; rintro e w' ⟨rfl, rfl⟩)
  refine (i_num _ _ _ _ h0 h1 (by omega) (by omega) (by omega) (by omega)).mono ?_
  rintro e w1 ⟨rfl, hb⟩
  go_wp2
  go_ret
  exact ⟨rfl, hb⟩
set_option maxHeartbeats 1000000 in
theorem s_beg (s y : Int) (w : World) (hs : inB s 0 6 = true) (h0 : 2 ≤ y) (h1 : y ≤ 2000) : Calls Tryz.prog 208 #[.int .i64 s, .int .i64 y] w fun e w' => e = .returned (.int .i64 (beg s y)) ∧ Below w.heap.size w w' := by
  have hs' := inB_iff.1 hs
  clear hs
  have h : s = 0 ∨ s = 1 ∨ s = 2 ∨ s = 3 ∨ s = 4 ∨ s = 5 ∨ s = 6 := by omega
  clear hs'
  rcases h with rfl | rfl | rfl | rfl | rfl | rfl | rfl
  case inr.inr.inr.inr.inl =>
    have h := eS_bd y
    go_enter Tryz.func208, Tryz.ntmps208
    go_wp2_with fail
    refine (s_l04Old _ _ (by omega) (by omega)).mono ?_
    rintro e w1 ⟨rfl, hb⟩
    obtain ⟨hc, hf⟩ := bcell hb
    go_wp2_with fail
    refine (s_num _ _ _ _ (by omega) (by omega) (by omega) (by omega) (by omega) (by omega)).mono ?_
    rintro e w2 ⟨rfl, hb2⟩
    go_wp2_with fail
    go_ret
    exact ⟨rfl, below_step (below_set (below_set (below_set (below_step (below_alloc _ _) hb) _ _) _ _) _ _) hb2⟩
  all_goals
    go_enter Tryz.func208, Tryz.ntmps208
    go_wp2_with fail
    refine (s_num _ _ _ _ (by omega) (by omega) (by omega) (by omega) (by omega) (by omega)).mono ?_
    rintro e w2 ⟨rfl, hb2⟩
    go_wp2_with fail
    go_ret
    exact ⟨rfl, below_step (below_alloc _ _) hb2⟩
set_option maxHeartbeats 1000000 in
theorem i_beg (s y : Int) (w : World) (hs : inB s 0 6 = true) (h0 : 2 ≤ y) (h1 : y ≤ 2000) : Calls Tryz.prog 264 #[.int .i64 s, .int .i64 y] w fun e w' => e = .returned (.int .i64 (beg s y)) ∧ Below w.heap.size w w' := by
  have hs' := inB_iff.1 hs
  clear hs
  have h : s = 0 ∨ s = 1 ∨ s = 2 ∨ s = 3 ∨ s = 4 ∨ s = 5 ∨ s = 6 := by omega
  clear hs'
  rcases h with rfl | rfl | rfl | rfl | rfl | rfl | rfl
  case inl =>
    have e0 : beg 0 y = nyear y := by simp [beg, num, cum]
    rw [e0]; clear e0
    go_enter Tryz.func264, Tryz.ntmps264
    go_wp2_with fail
    refine (i_nyear _ _ (by omega) (by omega)).mono ?_
    rintro e w2 ⟨rfl, rfl⟩
    go_wp2_with fail
    go_ret
    exact ⟨rfl, Below.refl _ _⟩
  case inr.inr.inr.inr.inl =>
    go_enter Tryz.func264, Tryz.ntmps264
    go_wp2_with fail
    refine (i_easter _ _ (by omega) (by omega)).mono ?_
    rintro e w2 ⟨rfl, hb2⟩
    go_wp2_with fail
    go_ret
    exact ⟨rfl, hb2⟩
  all_goals
    go_enter Tryz.func264, Tryz.ntmps264
    go_wp2_with fail
    refine (i_num _ _ _ _ (by omega) (by omega) (by omega) (by omega) (by omega) (by omega)).mono ?_
    rintro e w2 ⟨rfl, hb2⟩
    go_wp2_with fail
    go_ret
    exact ⟨rfl, hb2⟩
theorem beg_range (s y : Int) (h0 : 2 ≤ y) (h1 : y ≤ 2000) : 0 ≤ beg s y ∧ beg s y ≤ 1000000 := by
  have := beg_bd s y
  have a := nyear_mono 2 y h0
  have b := nyear_mono y 2000 h1
  have e1 : nyear 2 = 365 := by decide
  have e2 : nyear 2000 = 730134 := by decide
  omega
set_option maxHeartbeats 1000000 in
theorem i_span (s y : Int) (w : World) (hs : inB s 0 6 = true) (h0 : 2 ≤ y) (h1 : y ≤ 1999) : Calls Tryz.prog 217 #[.int .i64 s, .int .i64 y] w fun e w' => e = .returned (.agg #[.int .i64 (beg s y), .int .i64 (beg s (y + 1) - 1)]) ∧ Below w.heap.size w w' := by
  obtain ⟨b0, b1⟩ := beg_range s y h0 (by omega)
  obtain ⟨b2, b3⟩ := beg_range s (y + 1) (by omega) (by omega)
  go_enter Tryz.func217, Tryz.ntmps217
  go_wp2_with fail
  refine (i_beg _ _ _ hs h0 (by omega)).mono ?_
  rintro e w1 ⟨rfl, hb1⟩
  obtain ⟨hc1, hf1⟩ := bcell hb1
  have hz1 : w.heap.size < w1.heap.size := by have := hb1.size; simp at this; omega
  go_wp2_with fail
  refine (i_beg _ _ _ hs (by omega) (by omega)).mono ?_
  rintro e w2 ⟨rfl, hb2⟩
  obtain ⟨hc2, hf2⟩ := bcell hb2
  have hz2 : w.heap.size < w2.heap.size := by have := hb2.size; omega
  go_wp2_with fail
  refine bodyPost_ret (v := .agg #[.int .i64 (beg s y), .int .i64 (beg s (y + 1) - 1)]) (by simp [results, Tryz.results217, go_sem, hc1, hc2, hz1]) rfl ⟨rfl, ?_⟩
  exact below_set (below_set (below_step (below_step (below_alloc _ _) hb1) hb2) _ _) _ _
def spanF (s y : Int) : (Int × Int) × Int := if inB s 0 6 && inB y 2 1999 then ((beg s y, beg s (y + 1) - 1), 0) else ((0, 0), 2)
end Go.Proofs.YtmpgokijlikddaaGreatDoor
