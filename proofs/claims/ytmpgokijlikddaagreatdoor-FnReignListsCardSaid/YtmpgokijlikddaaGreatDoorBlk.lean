/- A block of memory that is known whole. No condition. -/
import Derived.Test.YtmpgokijlikddaaGreatDoorKit
import Derived.Laws.OwnMore
import Derived.Laws.Rows
namespace Go.Proofs.YtmpgokijlikddaaGreatDoor
open Go.RowKit
def Blk (w : World) (g : Nat) (t : TypeId) (cs : Array Value) : Prop := w.heap[g]? = some (.cells cs t (0, 0))

section
variable {w w' : World} {g : Nat} {t : TypeId} {cs : Array Value}
theorem Blk.lt (h : Blk w g t cs) : g < w.heap.size := by
  rcases Nat.lt_or_ge g w.heap.size with hlt | hge
  · exact hlt
  · unfold Blk at h; rw [Array.getElem?_eq_none hge] at h; cases h
theorem Blk.cell (h : Blk w g t cs) (i : Nat) : w.cell? ⟨g, i, none⟩ = cs[i]? := cell_of_row w g i cs t (0, 0) h
theorem Blk.frozen (h : Blk w g t cs) (i : Nat) : w.frozen? ⟨g, i, none⟩ = false := by
  unfold Blk at h
  simp [World.frozen?, h]
theorem Blk.new (w : World) (t : TypeId) (cs : Array Value) : Blk (w.alloc (.cells cs t)) w.heap.size t cs := heap_alloc_new w _
theorem Blk.drew (h : Blk w g t cs) : Blk w.drew g t cs := h
theorem Blk.drewN (h : Blk w g t cs) (n : Nat) : Blk (w.drewN n) g t cs := h
theorem Blk.alloc (h : Blk w g t cs) (o : Obj) : Blk (w.alloc o) g t cs := (Below.heap_alloc w o g h.lt).trans h
theorem Blk.set_ (h : Blk w g t cs) (i : Nat) (u : Value) : Blk (w.setCell ⟨g, i, none⟩ u) g t (cs.setIfInBounds i u) := by
  unfold Blk at h ⊢
  simp [World.setCell, Array.getElem?_modify, h]
theorem Blk.far (h : Blk w g t cs) {p : Addr} (hp : g ≠ p.block) (u : Value) : Blk (w.setCell p u) g t cs := (Below.heap_setCell w p u g hp).trans h
theorem Blk.below {B : Nat} (h : Blk w g t cs) (hb : Below B w w') (hg : g < B) : Blk w' g t cs := (hb.block g hg).trans h
theorem Blk.grown {row : Option Nat} (h : Blk w g t cs) (hb : w.grownBy w' row) (hg : some g ≠ row) : Blk w' g t cs := (hb.block g h.lt hg).trans h
theorem Blk.ne_ {g' : Nat} {t' : TypeId} {cs' : Array Value} (h : Blk w g t cs) (h' : Blk w g' t' cs') (hne : t ≠ t') : g ≠ g' := by
  rintro rfl
  unfold Blk at h h'
  rw [h] at h'
  injection h' with h'
  injection h' with _ ht
  exact hne ht
theorem own_blk_ne {base : Nat} {e : TypeId} {size n : Nat} {v : Value} {xs : List Value} (h : w.ownsRow base e size v n xs) (hg : Blk w g t cs) (hne : e ≠ t) : v.ownBlock ≠ some g := by
  rcases h.2 with ⟨rfl, _⟩ | ⟨g', cap, cur, rfl, _, hh, _⟩
  · simp [Value.ownBlock]
  · intro he
    have : g' = g := by simpa [Value.ownBlock] using he
    subst this
    exact Blk.ne_ (t := e) hh hg hne rfl
end
theorem Blk.c0 {w : World} {g : Nat} {t : TypeId} {a : Value} {l : List Value} (h : Blk w g t ⟨a :: l⟩) : w.cell? ⟨g, 0, none⟩ = some a := h.cell 0
theorem Blk.c1 {w : World} {g : Nat} {t : TypeId} {a b : Value} {l : List Value} (h : Blk w g t ⟨a :: b :: l⟩) : w.cell? ⟨g, 1, none⟩ = some b := h.cell 1
theorem Blk.c2 {w : World} {g : Nat} {t : TypeId} {a b c : Value} {l : List Value} (h : Blk w g t ⟨a :: b :: c :: l⟩) : w.cell? ⟨g, 2, none⟩ = some c := h.cell 2
theorem Blk.s0 {w : World} {g : Nat} {t : TypeId} {a : Value} {l : List Value} (h : Blk w g t ⟨a :: l⟩) (u : Value) : Blk (w.setCell ⟨g, 0, none⟩ u) g t ⟨u :: l⟩ := h.set_ 0 u
theorem Blk.s1 {w : World} {g : Nat} {t : TypeId} {a b : Value} {l : List Value} (h : Blk w g t ⟨a :: b :: l⟩) (u : Value) : Blk (w.setCell ⟨g, 1, none⟩ u) g t ⟨a :: u :: l⟩ := h.set_ 1 u
theorem Blk.s2 {w : World} {g : Nat} {t : TypeId} {a b c : Value} {l : List Value} (h : Blk w g t ⟨a :: b :: c :: l⟩) (u : Value) : Blk (w.setCell ⟨g, 2, none⟩ u) g t ⟨a :: b :: u :: l⟩ := h.set_ 2 u
theorem Blk.new' (w : World) (t : TypeId) (cs : Array Value) (g : Nat) (hg : g = w.heap.size) : Blk (w.alloc (.cells cs t)) g t cs := by subst hg; exact Blk.new w t cs
theorem Blk.to {w : World} {g : Nat} {t : TypeId} {cs cs' : Array Value} (h : Blk w g t cs) (e : cs = cs') : Blk w g t cs' := e ▸ h
end Go.Proofs.YtmpgokijlikddaaGreatDoor
