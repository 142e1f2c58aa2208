/- The program's OldNumeral returns what the reference's returns, for all arguments: the walk. No condition. -/
import Derived.Test.YtbejonekekpnaaaDoorRows
import Derived.Test.YtbejonekekpnaaaDoorKit
import Derived.Test.YtbejonekekpnaaaDoorOldNum
namespace Go.Proofs.YtbejonekekpnaaaDoor.fnExactOldNumeral
open Go.RowKit
set_option linter.unusedVariables false
-- door
theorem walk (n : Int) (wn : (Lit.int .i64 n).wf = true) (w : World) (hsh : w.ShapedOpen Tryd.prog) : Calls Tryd.prog 11 #[.int .i64 n] w fun e w' => e = .returned (.bool true) ∧ Below w.heap.size w w' := by
  have HM : Hid (MaxOk w) := Tryd.laysM146.s1_3 w hsh
  clear hsh
  go_enter Tryd.func11, Tryd.ntmps11
  go_wp2_with fail
  refine (s_OldNumeral n _).mono ?_
  rintro e w1 ⟨rfl, hb1⟩
  have HM1 : Hid (MaxOk w1) := HM.out.below hb1
  go_wp2_with fail
  refine (i_OldNumeral n _ HM1.out).mono ?_
  rintro e w2 ⟨rfl, hb2⟩
  go_wp2_with fail
  go_ret
  exact ⟨rfl, below_step hb1 hb2⟩
end Go.Proofs.YtbejonekekpnaaaDoor.fnExactOldNumeral
