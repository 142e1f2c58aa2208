/- Bytes in memory: a string turned to bytes, written, and turned back. No condition. -/
import Derived.Test.YtmpgokijlikddaaGreatDoorKit
import Derived.Laws.IdiomStrings
import Derived.Laws.World
namespace Go.Proofs.YtmpgokijlikddaaGreatDoor
open Go.RowKit
/-- block g holds the bytes l, not frozen -/
def BAt (w : World) (g : Nat) (l : List UInt8) : Prop := g < w.heap.size ∧ ∀ j, j < l.length → w.cell? ⟨g, j, none⟩ = some (.int .u8 ((l.getD j 0).toNat : Int)) ∧ w.frozen? ⟨g, j, none⟩ = false
theorem BAt.cell {w : World} {g : Nat} {l : List UInt8} (h : BAt w g l) (j : Nat) (hj : j < l.length) : w.cell? ⟨g, j, none⟩ = some (.int .u8 ((l.getD j 0).toNat : Int)) := (h.2 j hj).1
theorem BAt.frozen {w : World} {g : Nat} {l : List UInt8} (h : BAt w g l) (j : Nat) (hj : j < l.length) : w.frozen? ⟨g, j, none⟩ = false := (h.2 j hj).2
theorem BAt.set_ {w : World} {g : Nat} {l : List UInt8} (h : BAt w g l) (j : Nat) (hj : j < l.length) (c : UInt8) : BAt (w.setCell ⟨g, j, none⟩ (.int .u8 (c.toNat : Int))) g (l.set j c) := by
  refine ⟨by simpa using h.1, fun i hi => ⟨?_, ?_⟩⟩
  · by_cases he : j = i
    · subst he
      rw [World.cell?_setCell_same w _ _ (h.cell j hj)]
      simp [hj]
    · rw [World.cell?_setCell_other w _ _ _ (fun e => he (by injection e)), h.cell i (by simpa using hi)]
      simp [List.getD_eq_getElem?_getD, List.getElem?_set_ne he]
  · rw [World.frozen?_setCell]; exact h.frozen i (by simpa using hi)
theorem BAt.to {w : World} {g : Nat} {l m : List UInt8} (h : BAt w g l) (e : l = m) : BAt w g m := e ▸ h
theorem BAt.drewN {w : World} {g : Nat} {l : List UInt8} (h : BAt w g l) (n : Nat) : BAt (w.drewN n) g l := h
theorem BAt.drew {w : World} {g : Nat} {l : List UInt8} (h : BAt w g l) : BAt w.drew g l := h
theorem BAt.new (w : World) (l : List UInt8) (cap n : Nat) (hn : l.length ≤ n) : BAt (w.alloc (.cells (bytesRow ⟨l.toArray⟩ cap) 5 (n, n + 1))) w.heap.size l := by
  refine ⟨by simp, fun j hj => ⟨?_, ?_⟩⟩
  · rw [World.cell?_alloc_mark, bytesRow_at _ _ _ (by simpa using hj)]
    simp [hj]
  · rw [World.frozen?_alloc_mark]
    have : ¬ n ≤ j := by omega
    simp [this]
theorem bytesRow_size (l : List UInt8) (cap : Nat) : l.length ≤ (bytesRow ⟨l.toArray⟩ cap).size := by
  unfold bytesRow; simp
theorem BAt.back {w : World} {g : Nat} {l : List UInt8} (h : BAt w g l) (n : Nat) (hn : n = l.length) (cap : Nat) :
    (convert 22 9 (.slice (some ⟨g, 0, none⟩) n cap)).run Tryz.prog w = .ok (.string ⟨l.toArray⟩) w := by
  subst hn
  refine run_convert_bytes_back w 22 9 5 ⟨g, 0, none⟩ cap l Tryz.underlying22 Tryz.underlying5 Tryz.underlying9 fun j hj => ?_
  have e : (⟨g, 0, none⟩ : Addr).add j = ⟨g, j, none⟩ := by unfold Addr.add; split <;> simp_all
  rw [e, h.cell j hj]
  simp [List.getD_eq_getElem?_getD, List.getElem?_eq_getElem hj]
end Go.Proofs.YtmpgokijlikddaaGreatDoor
