/- The marks of years (indiction, epact, concurrent): the program's and the reference's functions return what the plain functions say. No condition. -/
import Derived.Test.YtnoeakhhokbikaaDoorNum
namespace Go.Proofs.YtnoeakhhokbikaaDoor
open Go.RowKit
def indF (y : Int) : Int × Int := if inB y 1 2000 then ((y + 2) % 15 + 1, 0) else (0, 2)
def epF (y : Int) : Int × Int := if inB y 1 2000 then (11 * (y % 19) % 30, 0) else (0, 2)
def conc (y : Int) : Int := (num y 3 24 + 5 + 1) % 7 + 1
def concF (y : Int) : Int × Int := if inB y 1 2000 then (conc y, 0) else (0, 2)
theorem num324 (y : Int) (h0 : 1 ≤ y) (h1 : y ≤ 2000) : 0 ≤ num y 3 24 ∧ num y 3 24 ≤ 1000000 := by
  have := lp_01 y
  have h : cum y 3 = lp y + 59 := by simp [cum]
  unfold num nyear; omega
def markF (y : Int) : (Int × Int × Int) × Int := if inB y 1 2000 then (((y + 2) % 15 + 1, 11 * (y % 19) % 30, conc y), 0) else ((0, 0, 0), 2)
def isMarkB (i e c : Int) : Bool := decide ((0 ≤ i ∧ i ≤ 15) ∧ (-1 ≤ e ∧ e ≤ 29) ∧ (0 ≤ c ∧ c ≤ 7))
theorem isMarkB_iff {i e c : Int} : isMarkB i e c = true ↔ inB i 0 15 = true ∧ inB e (-1) 29 = true ∧ inB c 0 7 = true := by unfold isMarkB inB; simp
end Go.Proofs.YtnoeakhhokbikaaDoor
