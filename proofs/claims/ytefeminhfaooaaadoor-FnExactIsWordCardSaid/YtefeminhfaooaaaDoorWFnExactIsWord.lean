/- The program's IsWord returns what the reference's returns, for all texts: the walk. No condition. -/
import Derived.Test.YtefeminhfaooaaaDoorRows
import Derived.Test.YtefeminhfaooaaaDoorKit
import Derived.Test.YtefeminhfaooaaaDoorWordB
namespace Go.Proofs.YtefeminhfaooaaaDoor.fnExactIsWord
open Go.RowKit
set_option linter.unusedVariables false
-- door
theorem walk (s : ByteArray) (ws : s.size ≤ maxLen) (w : World) (hsh : w.ShapedOpen Tryd.prog) : Calls Tryd.prog 9 #[.string s] w fun e w' => e = .returned (.bool true) ∧ Below w.heap.size w w' := by
  have hs : s.size ≤ 9223372036854775807 := ws
  clear ws hsh
  by_cases hbig : 1048576 < s.size
  · go_enter Tryd.func9, Tryd.ntmps9
    go_wp2_with fail
    go_ret
    exact ⟨rfl, Below.refl _ _⟩
  · have hb' : (s.size : Int) ≤ 1048576 := by omega
    obtain ⟨b, hb⟩ : ∃ b, smallB s.data.toList 20 = b := ⟨_, rfl⟩
    have HB := Lib.hid hb; clear hb hbig
    go_enter Tryd.func9, Tryd.ntmps9
    go_wp2_with fail
    refine (toB (s_IsWord _ _ hs) HB.out).mono ?_
    rintro e w1 ⟨rfl, rfl⟩
    go_wp2_with fail
    refine (toBelowB (i_IsWord _ _ hs) HB.out).mono ?_
    rintro e w2 ⟨rfl, hb2⟩
    cases b
    all_goals
      go_wp2_with fail
      go_ret
      exact ⟨rfl, hb2⟩
end Go.Proofs.YtefeminhfaooaaaDoor.fnExactIsWord
