/- IsWord: the program's and the reference's functions return what the plain function says. Condition: a text's length is one that a machine can hold. -/
import Derived.Test.YtefeminhfaooaaaDoorSmall
namespace Go.Proofs.YtefeminhfaooaaaDoor
open Go.RowKit
theorem i_IsWord (s : ByteArray) (w : World) (hs : s.size ≤ 9223372036854775807) : Calls Tryd.prog 26 #[.string s] w fun e w' => e = .returned (.bool (smallB s.data.toList 20)) ∧ Below w.heap.size w w' := by
  go_enter Tryd.func26, Tryd.ntmps26
  go_wp2_with fail
  refine (i_small _ _ _ hs).mono ?_
  rintro e w1 ⟨rfl, hb⟩
  go_wp2_with fail
  go_ret
  exact ⟨rfl, hb⟩
theorem s_IsWord (s : ByteArray) (w : World) (hs : s.size ≤ 9223372036854775807) : Calls Tryd.prog 25 #[.string s] w fun e w' => e = .returned (.bool (smallB s.data.toList 20)) ∧ w = w' := by
  go_enter Tryd.func25, Tryd.ntmps25
  go_wp2_with fail
  refine (s_small _ _ _ hs).mono ?_
  rintro e w1 ⟨rfl, rfl⟩
  go_wp2_with fail
  go_ret
  exact ⟨rfl, rfl⟩
end Go.Proofs.YtefeminhfaooaaaDoor
