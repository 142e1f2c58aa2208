/- The program's IsYearMark returns what the reference's returns, for all marks: the walk. No condition. -/
import Derived.Test.YtonihldkiecobaaRows
import Derived.Test.YtonihldkiecobaaKit
import Derived.Test.YtonihldkiecobaaMarks
namespace Go.Proofs.Ytonihldkiecobaa.fnExactIsYearMark
open Go.RowKit
set_option linter.unusedVariables false
theorem walk (i e c : Int) (w0 : (Lit.int .i64 i).wf = true) (w1 : (Lit.int .i64 e).wf = true) (w2 : (Lit.int .i64 c).wf = true) (w : World) : Calls Try.prog 3 #[.agg #[.int .i64 i, .int .i64 e, .int .i64 c]] w fun r w' => r = .returned (.bool true) ∧ Below w.heap.size w w' := by
  go_enter Try.func3, Try.ntmps3
  go_wp2_with fail
  refine (toYearMark _ _ _ _).mono ?_
  rintro r w1 ⟨rfl, hb1⟩
  obtain ⟨hc1, hf1⟩ := bcell hb1
  have hz1 : w.heap.size < w1.heap.size := by have := hb1.size; simp at this; omega
  go_wp2_with fail
  refine (s_IsYearMark _ _ _ _).mono ?_
  rintro r w2 ⟨rfl, hb2⟩
  obtain ⟨hc2, hf2⟩ := bcell hb2
  have hz2 : w.heap.size < w2.heap.size := by have := hb2.size; omega
  go_wp2_with fail
  refine (toYearMark _ _ _ _).mono ?_
  rintro r w3 ⟨rfl, hb3⟩
  go_wp2_with fail
  refine (i_IsYearMark _ _ _ _).mono ?_
  rintro r w4 ⟨rfl, hb4⟩
  go_wp2_with fail
  go_ret
  exact ⟨rfl, below_step (below_step (below_step (below_step (below_alloc _ _) hb1) hb2) hb3) hb4⟩
end Go.Proofs.Ytonihldkiecobaa.fnExactIsYearMark
