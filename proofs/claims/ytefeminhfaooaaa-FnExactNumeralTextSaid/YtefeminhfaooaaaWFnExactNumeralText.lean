/- The program's NumeralText returns what the reference's returns, for all numbers: the walk. No condition. -/
import Derived.Test.YtefeminhfaooaaaRows
import Derived.Test.YtefeminhfaooaaaKit
import Derived.Test.YtefeminhfaooaaaNumText
namespace Go.Proofs.Ytefeminhfaooaaa.fnExactNumeralText
open Go.RowKit
set_option linter.unusedVariables false
theorem walk (n : Int) (wn : (Lit.int .i64 n).wf = true) (w : World) : Calls Try.prog 3 #[.int .i64 n] w fun e w' => e = .returned (.bool true) ∧ Below w.heap.size w w' := by
  go_enter Try.func3, Try.ntmps3
  go_wp2_with fail
  refine (s_NumeralText _ _).mono ?_
  rintro e w1 ⟨rfl, rfl⟩
  go_wp2_with fail
  refine (i_NumeralText _ _).mono ?_
  rintro e w2 ⟨rfl, hb2⟩
  go_wp2_with fail
  go_ret
  exact ⟨rfl, hb2⟩
end Go.Proofs.Ytefeminhfaooaaa.fnExactNumeralText
