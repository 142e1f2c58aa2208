/- The program's EpactOf returns what the reference's returns, for all years: the walk. No condition. -/
import Derived.Test.YtonihldkiecobaaRows
import Derived.Test.YtonihldkiecobaaKit
import Derived.Test.YtonihldkiecobaaMarks
namespace Go.Proofs.Ytonihldkiecobaa.fnExactEpactOf
open Go.RowKit
set_option linter.unusedVariables false
theorem walk (y : Int) (wy : (Lit.int .i64 y).wf = true) (w : World) : Calls Try.prog 5 #[.int .i64 y] w fun e w' => e = .returned (.bool true) ∧ Below w.heap.size w w' := by
  go_enter Try.func5, Try.ntmps5
  go_wp2_with fail
  refine (s_EpactOf _ _).mono ?_
  rintro e w_1 ⟨rfl, rfl⟩
  go_wp2_with fail
  refine (i_EpactOf _ _).mono ?_
  rintro e w2 ⟨rfl, hb2⟩
  go_wp2_with fail
  go_ret
  exact ⟨rfl, hb2⟩
end Go.Proofs.Ytonihldkiecobaa.fnExactEpactOf
