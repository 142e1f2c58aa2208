/- How memory grows. No condition. -/
import Derived.Test.YtmpgokijlikddaaGreatDoorBlk
import Derived.Deep.AppendLies
import Derived.Deep.Onto
import Derived.OwnWalk
namespace Go.Proofs.YtmpgokijlikddaaGreatDoor
open Go.RowKit
theorem grown_of_below {a w : World} (h : Below a.heap.size a w) (row : Option Nat) : a.grownBy w row := ⟨h.os, h.tape, h.output, h.size, fun i hi _ => h.block i hi⟩
theorem grown_trans {a b c : World} {row : Option Nat} (h : a.grownBy b row) (k : b.grownBy c row) : a.grownBy c row :=
  ⟨k.os.trans h.os, k.tape.trans h.tape, k.output.trans h.output, Nat.le_trans h.size k.size, fun i hi hn => (k.block i (Nat.lt_of_lt_of_le hi h.size) hn).trans (h.block i hi hn)⟩
end Go.Proofs.YtmpgokijlikddaaGreatDoor
