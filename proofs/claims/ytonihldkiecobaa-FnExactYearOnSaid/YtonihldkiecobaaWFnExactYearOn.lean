/- The program's YearOn returns what the reference's returns, for all styles and days: the walk. No condition. -/
import Derived.Test.YtonihldkiecobaaRows
import Derived.Test.YtonihldkiecobaaKit
import Derived.Test.YtonihldkiecobaaYearOn
namespace Go.Proofs.Ytonihldkiecobaa.fnExactYearOn
open Go.RowKit
set_option linter.unusedVariables false
theorem walk (s : Int) (ws : (Lit.int .i64 s).wf = true) (n : Int) (wn : (Lit.int .i64 n).wf = true) (w : World) : Calls Try.prog 11 #[.int .i64 s, .int .i64 n] w fun e w' => e = .returned (.bool true) ∧ Below w.heap.size w w' := by
  go_enter Try.func11, Try.ntmps11
  go_wp2_with fail
  refine (s_YearOn _ _ _).mono ?_
  rintro e w1 ⟨rfl, hb1⟩
  go_wp2_with fail
  refine (i_YearOn _ _ _).mono ?_
  rintro e w2 ⟨rfl, hb2⟩
  go_wp2_with fail
  go_ret
  exact ⟨rfl, below_step hb1 hb2⟩
end Go.Proofs.Ytonihldkiecobaa.fnExactYearOn
