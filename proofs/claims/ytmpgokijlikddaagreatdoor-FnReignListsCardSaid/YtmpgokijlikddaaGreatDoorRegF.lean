/- RegnalYear, RegnalSpan, CountYears: the program's and the reference's functions return what the plain functions say. Condition: a length that a machine can hold. -/
import Derived.Test.YtmpgokijlikddaaGreatDoorRegY
namespace Go.Proofs.YtmpgokijlikddaaGreatDoor
open Go.RowKit
def ryF (x : List UInt8) (f t n : Int) : Int × Int := if regB x f t then (if inB n 0 730499 then (if inB n f t then (ky f n, 0) else (0, 4)) else (0, 2)) else (0, 1)
def rsF (x : List UInt8) (f t k : Int) : (Int × Int) × Int := if regB x f t then (if k < 1 then ((0, 0), 2) else if (rsp f t k).2 then ((rsp f t k).1, 0) else ((0, 0), 4)) else ((0, 0), 1)
def cyF (x : List UInt8) (f t : Int) : Int × Int := if regB x f t then (ky f t, 0) else (0, 1)
theorem ret_ii {a b c d : Int} (p : Int × Int) (h : p = (c, d)) (h1 : a = c) (h2 : b = d) : Ending.returned (.tuple #[.int .i64 a, .int .i64 b]) = .returned (.tuple #[.int .i64 p.1, .int .i64 p.2]) := by rw [h, h1, h2]
theorem reg_open {x : List UInt8} {f t : Int} (h : regB x f t = true) : 0 ≤ f ∧ f ≤ t ∧ t ≤ 730499 := by
  obtain ⟨_, h2, h3, h4⟩ := regB_iff.1 h
  exact ⟨(inB_iff.1 h2).1, h4, (inB_iff.1 h3).2⟩
theorem i_covers (s : ByteArray) (f t n : Int) (w : World) : Calls Tryz.prog 140 #[.agg #[.string s, .int .i64 f, .int .i64 t], .int .i64 n] w fun e w' => e = .returned (.bool (inB n f t)) ∧ Below w.heap.size w w' := by
  go_enter Tryz.func140, Tryz.ntmps140
  go_wp2_with fail
  refine (i_in _ _ _ _).mono ?_
  rintro e w1 ⟨rfl, rfl⟩
  go_wp2_with fail
  go_ret
  exact ⟨rfl, below_alloc _ _⟩
end Go.Proofs.YtmpgokijlikddaaGreatDoor
