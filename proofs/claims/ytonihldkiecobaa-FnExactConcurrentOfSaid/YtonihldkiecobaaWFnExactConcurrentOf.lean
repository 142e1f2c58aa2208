/- The program's ConcurrentOf returns what the reference's returns, for all years: the walk. No condition. -/
import Derived.Test.YtonihldkiecobaaRows
import Derived.Test.YtonihldkiecobaaKit
import Derived.Test.YtonihldkiecobaaMarks
namespace Go.Proofs.Ytonihldkiecobaa.fnExactConcurrentOf
open Go.RowKit
set_option linter.unusedVariables false
theorem walk (y : Int) (wy : (Lit.int .i64 y).wf = true) (w : World) : Calls Try.prog 6 #[.int .i64 y] w fun e w' => e = .returned (.bool true) ∧ Below w.heap.size w w' := by
  go_enter Try.func6, Try.ntmps6
  go_wp2_with fail
  refine (s_ConcurrentOf _ _).mono ?_
  rintro e w1 ⟨rfl, hb1⟩
  go_wp2_with fail
  refine (i_ConcurrentOf _ _).mono ?_
  rintro e w2 ⟨rfl, hb2⟩
  go_wp2_with fail
  go_ret
  exact ⟨rfl, below_step hb1 hb2⟩
end Go.Proofs.Ytonihldkiecobaa.fnExactConcurrentOf
