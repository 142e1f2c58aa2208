/- Draws of a year, of a mark, and of a mark with two years. Conditions: how the code and the source lie. -/
import Derived.Test.YtnoeakhhokbikaaDoorDrawR
import Derived.Test.YtnoeakhhokbikaaDoorMarks
import Derived.Deep.RegionHeld3
import Derived.IntWalk
namespace Go.Proofs.YtnoeakhhokbikaaDoor
open Go.RowKit
theorem Src.undrew' {w : World} {g n c : Nat} {a : Option Addr} {xs : List Int} (h : Src w g a n c xs) : Src w.drew g a n c xs := h
theorem Off.undrew' {g : Nat} {a w : World} (h : Off g a.drew w) : Off g a w := ⟨h.os, h.tape, h.output, h.size, h.block⟩
theorem cellsI {w : World} {b : Nat} {t : TypeId} {l : List Int} (h : Blk w b t ⟨l.map (Value.int .i64)⟩) (j : Nat) (hj : j < l.length) : w.cell? ⟨b, j, none⟩ = some (.int .i64 (l.getD j 0)) := by
  rw [h.cell j]
  simp [hj]
end Go.Proofs.YtnoeakhhokbikaaDoor
