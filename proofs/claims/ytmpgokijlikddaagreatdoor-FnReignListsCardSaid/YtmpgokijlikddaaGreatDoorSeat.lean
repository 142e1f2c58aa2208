/- Closed facts of the whole dump, each by the kernel on its own (a great dump wants too much memory for all at once). No condition. -/
import Derived.Test.YtmpgokijlikddaaGreatDoorRows
import Derived.SevenTiedAt
import Derived.JoinedOf
namespace Go.Proofs.YtmpgokijlikddaaGreatDoor
theorem sf_laid : laidOutB Tryz.prog = true := by kernel_rfl
theorem sf_maps : mapsRowed Tryz.prog = true := by kernel_rfl
theorem sf_stops : (Tryz.prog.stops == []) = true := by kernel_rfl
theorem sf_knobs : (Tryz.prog.stopKnobs == []) = true := by kernel_rfl
theorem and_i {a b : Bool} (h : a = true) (k : b = true) : (a && b) = true := by rw [h, k]; rfl
end Go.Proofs.YtmpgokijlikddaaGreatDoor
