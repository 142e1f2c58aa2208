/- The styles of the year: the begin and the span of a year, Easter by the old rule: the program's and the reference's functions return what the plain functions say. Conditions: the bounds that stand in the theorems. -/
import Derived.Test.YtoadkljaiegnlaaDoorNum
namespace Go.Proofs.YtoadkljaiegnlaaDoor
open Go.RowKit
def eP (y : Int) : Int := (19 * (y % 19) + 15) % 30
def eS (y : Int) : Int := eP y + (2 * (y % 4) + 4 * (y % 7) - eP y + 34) % 7 + 114
theorem eS_bd (y : Int) : 114 ≤ eS y ∧ eS y ≤ 149 := by unfold eS eP; omega
def easter (y : Int) : Int := num y (eS y / 31) (eS y % 31 + 1)
def beg (s y : Int) : Int :=
  if s = 1 then num y 3 1 else if s = 2 then num y 3 25 else if s = 3 then num (y - 1) 3 25 else if s = 4 then easter y else if s = 5 then num (y - 1) 12 25 else if s = 6 then num (y - 1) 9 1 else num y 1 1
theorem cum3 (y : Int) : cum y 3 = lp y + 59 := by simp [cum]
theorem cum4 (y : Int) : cum y 4 = lp y + 90 := by simp [cum]
theorem cum9 (y : Int) : cum y 9 = lp y + 243 := by simp [cum]
theorem cum12 (y : Int) : cum y 12 = lp y + 334 := by simp [cum]
theorem easter_bd (y : Int) : nyear y + 80 ≤ easter y ∧ easter y ≤ nyear y + 116 := by
  have h := eS_bd y
  have l := lp_01 y
  unfold easter num
  by_cases h3 : eS y / 31 = 3
  · rw [h3, cum3]; omega
  · have h4 : eS y / 31 = 4 := by omega
    rw [h4, cum4]; omega
theorem nyear_pred (y : Int) : nyear y = nyear (y - 1) + 365 + lp (y - 1) := by have := nyear_succ (y - 1); rwa [Int.sub_add_cancel] at this
theorem beg_bd (s y : Int) : nyear y - 300 ≤ beg s y ∧ beg s y ≤ nyear y + 116 := by
  have l := lp_01 y
  have l' := lp_01 (y - 1)
  have e := easter_bd y
  have p := nyear_pred y
  unfold beg num
  simp only [cum3, cum12, cum9, cum_one]
  repeat' split
  all_goals omega
theorem beg_mono (s y : Int) : beg s y + 300 ≤ beg s (y + 1) := by
  have l := lp_01 y
  have l' := lp_01 (y - 1)
  have l2 := lp_01 (y + 1)
  have e := easter_bd y
  have e' := easter_bd (y + 1)
  have p := nyear_pred y
  have q := nyear_succ y
  unfold beg num
  simp only [cum3, cum12, cum9, cum_one, Int.add_sub_cancel]
  repeat' split
  all_goals omega
theorem beg_range (s y : Int) (h0 : 2 ≤ y) (h1 : y ≤ 2000) : 0 ≤ beg s y ∧ beg s y ≤ 1000000 := by
  have := beg_bd s y
  have a := nyear_mono 2 y h0
  have b := nyear_mono y 2000 h1
  have e1 : nyear 2 = 365 := by decide
  have e2 : nyear 2000 = 730134 := by decide
  omega
def spanF (s y : Int) : (Int × Int) × Int := if inB s 0 6 && inB y 2 1999 then ((beg s y, beg s (y + 1) - 1), 0) else ((0, 0), 2)
theorem eqSpan_same (a b : Int) (w : World) : Calls Tryd.prog 47 #[.agg #[.int .i64 a, .int .i64 b], .agg #[.int .i64 a, .int .i64 b]] w fun r w' => r = .returned (.bool true) ∧ Below w.heap.size w w' := by
  go_enter Tryd.func47, Tryd.ntmps47
  go_wp2
  go_ret
  exact ⟨rfl, below_more (below_alloc _ _) (by simp) _⟩
end Go.Proofs.YtoadkljaiegnlaaDoor
