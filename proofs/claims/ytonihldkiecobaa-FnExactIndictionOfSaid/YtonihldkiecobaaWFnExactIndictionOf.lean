/- The program's IndictionOf returns what the reference's returns, for all years: the walk. No condition. -/
import Derived.Test.YtonihldkiecobaaRows
import Derived.Test.YtonihldkiecobaaKit
import Derived.Test.YtonihldkiecobaaMarks
namespace Go.Proofs.Ytonihldkiecobaa.fnExactIndictionOf
open Go.RowKit
set_option linter.unusedVariables false
theorem walk (y : Int) (wy : (Lit.int .i64 y).wf = true) (w : World) : Calls Try.prog 4 #[.int .i64 y] w fun e w' => e = .returned (.bool true) ∧ Below w.heap.size w w' := by
  go_enter Try.func4, Try.ntmps4
  go_wp2_with fail
  refine (s_IndictionOf _ _).mono ?_
  rintro e w_1 ⟨rfl, rfl⟩
  go_wp2_with fail
  refine (i_IndictionOf _ _).mono ?_
  rintro e w_2 ⟨rfl, rfl⟩
  go_wp2_with fail
  go_ret
  exact ⟨rfl, Below.refl _ _⟩
end Go.Proofs.Ytonihldkiecobaa.fnExactIndictionOf
