/- IsWord: the program's and the reference's functions return what the plain function says. Condition: a text's length is one that a machine can hold. -/
import Derived.Test.YtmpgokijlikddaaGreatDoorSmall
namespace Go.Proofs.YtmpgokijlikddaaGreatDoor
open Go.RowKit
theorem i_IsWord (s : ByteArray) (w : World) (hs : s.size ≤ 9223372036854775807) : Calls Tryz.prog 221 #[.string s] w fun e w' => e = .returned (.bool (smallB s.data.toList 20)) ∧ Below w.heap.size w w' := by
  go_enter Tryz.func221, Tryz.ntmps221
  go_wp2_with fail
  refine (i_small _ _ _ hs).mono ?_
  rintro e w1 ⟨rfl, hb⟩
  go_wp2_with fail
  go_ret
  exact ⟨rfl, hb⟩
theorem s_IsWord (s : ByteArray) (w : World) (hs : s.size ≤ 9223372036854775807) : Calls Tryz.prog 171 #[.string s] w fun e w' => e = .returned (.bool (smallB s.data.toList 20)) ∧ w = w' := by
  go_enter Tryz.func171, Tryz.ntmps171
  go_wp2_with fail
  refine (s_small _ _ _ hs).mono ?_
  rintro e w1 ⟨rfl, rfl⟩
  go_wp2_with fail
  go_ret
  exact ⟨rfl, rfl⟩
end Go.Proofs.YtmpgokijlikddaaGreatDoor
