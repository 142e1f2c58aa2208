/- The library's variable MaxLen holds an int: carried from world to world. No condition. -/
import Derived.Test.YtmpgokijlikddaaGreatDoorKit
import Derived.Test.YtmpgokijlikddaaGreatDoorShelf
namespace Go.Proofs.YtmpgokijlikddaaGreatDoor
open Go.RowKit
def MaxOk (w : World) : Prop := ∃ m, w.cell? ⟨0, 0, none⟩ = some (.int .i64 m)
theorem MaxOk.lt {w : World} (h : MaxOk w) : 0 < w.heap.size := by
  obtain ⟨m, h⟩ := h
  rcases Nat.lt_or_ge 0 w.heap.size with hlt | hge
  · exact hlt
  · unfold World.cell? at h; simp [Array.getElem?_eq_none hge] at h
theorem MaxOk.below {w w' : World} (h : MaxOk w) (hb : Below w.heap.size w w') : MaxOk w' := by
  obtain ⟨m, hm⟩ := id h
  exact ⟨m, (hb.cell (p := ⟨0, 0, none⟩) h.lt).trans hm⟩
theorem MaxOk.alloc {w : World} (h : MaxOk w) (o : Obj) : MaxOk (w.alloc o) := h.below (below_alloc w o)
theorem MaxOk.drewN {w : World} (h : MaxOk w) (n : Nat) : MaxOk (w.drewN n) := h
end Go.Proofs.YtmpgokijlikddaaGreatDoor
