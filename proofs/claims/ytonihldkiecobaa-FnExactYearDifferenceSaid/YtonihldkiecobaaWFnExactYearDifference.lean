/- The program's YearDifference returns what the reference's returns, for all styles and days: the walk. No condition. -/
import Derived.Test.YtonihldkiecobaaRows
import Derived.Test.YtonihldkiecobaaKit
import Derived.Test.YtonihldkiecobaaYearDiff
namespace Go.Proofs.Ytonihldkiecobaa.fnExactYearDifference
open Go.RowKit
set_option linter.unusedVariables false
theorem walk (a : Int) (wa : (Lit.int .i64 a).wf = true) (b : Int) (wb : (Lit.int .i64 b).wf = true) (n : Int) (wn : (Lit.int .i64 n).wf = true) (w : World) : Calls Try.prog 12 #[.int .i64 a, .int .i64 b, .int .i64 n] w fun e w' => e = .returned (.bool true) ∧ Below w.heap.size w w' := by
  go_enter Try.func12, Try.ntmps12
  go_wp2_with fail
  refine (s_YearDifference _ _ _ _).mono ?_
  rintro e w1 ⟨rfl, hb1⟩
  go_wp2_with fail
  refine (i_YearDifference _ _ _ _).mono ?_
  rintro e w2 ⟨rfl, hb2⟩
  go_wp2_with fail
  go_ret
  exact ⟨rfl, below_step hb1 hb2⟩
end Go.Proofs.Ytonihldkiecobaa.fnExactYearDifference
