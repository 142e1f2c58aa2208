/- NormalWord, AreAlike: the program's and the reference's functions return what the plain functions say. Condition: lengths that a machine can hold. -/
import Derived.Test.YtmpgokijlikddaaGreatDoorNmS
import Derived.Test.YtmpgokijlikddaaGreatDoorNmI
import Derived.Test.YtmpgokijlikddaaGreatDoorAre
namespace Go.Proofs.YtmpgokijlikddaaGreatDoor
open Go.RowKit
def nmF (x : List UInt8) : List UInt8 × Int := if wordB x then (nmL x, 0) else ([], 1)
theorem nmF_T {x : List UInt8} (h : wordB x = true) : nmF x = (nmL x, 0) := by unfold nmF; rw [h]; rfl
theorem nmF_F {x : List UInt8} (h : wordB x = false) : nmF x = ([], 1) := by unfold nmF; rw [h]; rfl
end Go.Proofs.YtmpgokijlikddaaGreatDoor
