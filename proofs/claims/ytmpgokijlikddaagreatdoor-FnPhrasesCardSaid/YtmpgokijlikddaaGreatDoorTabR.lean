/- The table of the replacer as it is built, letter by letter. No condition. -/
import Derived.Test.YtmpgokijlikddaaGreatDoorNewR
import Derived.Test.YtmpgokijlikddaaGreatDoorRpl
import Derived.Test.YtmpgokijlikddaaGreatDoorBRow
import Derived.Laws.Tables
namespace Go.Proofs.YtmpgokijlikddaaGreatDoor
open Go.RowKit
/-- blocks of bytes stay -/
def Keep8 (w w' : World) : Prop := w.heap.size ≤ w'.heap.size ∧ ∀ (b : Nat) (row : Array Value) (fr : Nat × Nat), w.heap[b]? = some (Obj.cells row 5 fr) → w'.heap[b]? = w.heap[b]?
theorem Keep8.refl (w : World) : Keep8 w w := ⟨Nat.le_refl _, fun _ _ _ _ => rfl⟩
theorem Keep8.trans {a b c : World} (h : Keep8 a b) (k : Keep8 b c) : Keep8 a c := ⟨Nat.le_trans h.1 k.1, fun i row fr hi => by
  have h1 := h.2 i row fr hi
  exact (k.2 i row fr (h1.trans hi)).trans h1⟩
theorem Keep8.drew {a b : World} (h : Keep8 a b) : Keep8 a b.drew := ⟨h.1, h.2⟩
theorem Keep8.below {a b : World} (h : Below a.heap.size a b) : Keep8 a b := ⟨h.size, fun i row fr hi => h.block i (by
  rcases Nat.lt_or_ge i a.heap.size with hlt | hge
  · exact hlt
  · rw [Array.getElem?_eq_none hge] at hi; cases hi)⟩
theorem Keep8.alloc (w : World) (o : Obj) : Keep8 w (w.alloc o) := Keep8.below (below_alloc w o)
theorem Keep8.grown {w w' : World} {B : Nat} {v : Value} {xs : List (List UInt8)} (hv : OwnS w B v xs) (h : w.grownBy w' v.ownBlock) : Keep8 w w' := ⟨h.size, fun i row fr hi => h.block i (by
  rcases Nat.lt_or_ge i w.heap.size with hlt | hge
  · exact hlt
  · rw [Array.getElem?_eq_none hge] at hi; cases hi) (fun e => by
  rcases hv.2 with ⟨rfl, _⟩ | ⟨g', cap, cur, rfl, _, hh, _⟩
  · simp [Value.ownBlock] at e
  · have : i = g' := by simpa [Value.ownBlock] using e
    subst this
    rw [hi] at hh
    injection hh with hh
    injection hh with _ ht
    exact absurd ht (by decide))⟩
theorem Keep8.set_ {w : World} {g : Nat} {cs : Array Value} (h : Blk w g 289 cs) (i : Nat) (u : Value) : Keep8 w (w.setCell ⟨g, i, none⟩ u) := ⟨by simp, fun b row fr hi => by
  have hne : b ≠ g := by
    rintro rfl
    unfold Blk at h
    rw [h] at hi
    injection hi with hi
    injection hi with _ ht
    exact absurd ht (by decide)
  exact Below.heap_setCell w ⟨g, i, none⟩ u b hne⟩
/-- the letters put so far have their texts -/
def TabOk (w : World) (cs : Array Value) (dn : UInt8 → Bool) : Prop := ∀ c : UInt8, ∃ v, cs[c.toNat]? = some v ∧ (dn c = false → v = .slice none 0 0) ∧
  (dn c = true → ∃ b cap rc fr, v = .slice (some ⟨b, 0, none⟩) (wdB c).length cap ∧ w.heap[b]? = some (Obj.cells (bytesRow ⟨(wdB c).toArray⟩ rc) 5 fr))
theorem TabOk.keep {w w' : World} {cs : Array Value} {dn : UInt8 → Bool} (h : TabOk w cs dn) (k : Keep8 w w') : TabOk w' cs dn := fun c => by
  obtain ⟨v, h1, h2, h3⟩ := h c
  refine ⟨v, h1, h2, fun hc => ?_⟩
  obtain ⟨b, cap, rc, fr, e, hb⟩ := h3 hc
  exact ⟨b, cap, rc, fr, e, (k.2 b _ _ hb).trans hb⟩
theorem TabOk.other {w : World} {cs : Array Value} {dn : UInt8 → Bool} (h : TabOk w cs dn) (u : Value) : TabOk w (cs.setIfInBounds 256 u) dn := fun c => by
  obtain ⟨v, h1, h2⟩ := h c
  have hc := c.toNat_lt
  exact ⟨v, by rw [Array.getElem?_setIfInBounds_ne (by omega)]; exact h1, h2⟩
theorem TabOk.put {w : World} {cs : Array Value} {dn : UInt8 → Bool} (h : TabOk w cs dn) (o : UInt8) (b cap rc : Nat) (hs : cs.size = 257)
    (fr : Nat × Nat) (hb : w.heap[b]? = some (Obj.cells (bytesRow ⟨(wdB o).toArray⟩ rc) 5 fr)) :
    TabOk w (cs.setIfInBounds o.toNat (.slice (some ⟨b, 0, none⟩) (wdB o).length cap)) (fun c => dn c || decide (c = o)) := fun c => by
  have hc := c.toNat_lt
  have ho := o.toNat_lt
  by_cases e : c = o
  · subst e
    exact ⟨_, by rw [Array.getElem?_setIfInBounds_self_of_lt (by omega)], fun hf => by simp at hf, fun _ => ⟨b, cap, rc, fr, rfl, hb⟩⟩
  · obtain ⟨v, h1, h2, h3⟩ := h c
    refine ⟨v, ?_, fun hf => h2 (by simpa [e] using hf), fun ht => h3 (by simpa [e] using ht)⟩
    rw [Array.getElem?_setIfInBounds_ne (fun e' => e (UInt8.toNat_inj.1 e'.symm))]
    exact h1
theorem TabOk.rep {w : World} {g : Nat} {cs : Array Value} (h : TabOk w cs chB) (hB : Blk w g 289 cs) : RepT w g := fun c => by
  obtain ⟨v, h1, h2, h3⟩ := h c
  refine ⟨v, (hB.cell _).trans h1, h2, fun hc => ?_⟩
  obtain ⟨b, cap, rc, fr, e, hb⟩ := h3 hc
  have hlt : b < w.heap.size := by
    rcases Nat.lt_or_ge b w.heap.size with hlt | hge
    · exact hlt
    · rw [Array.getElem?_eq_none hge] at hb; cases hb
  refine ⟨b, cap, e, hlt, fun j x hx => ?_⟩
  have hj : j < (wdB c).length := by
    rcases Nat.lt_or_ge j (wdB c).length with hlt | hge
    · exact hlt
    · rw [List.getElem?_eq_none hge] at hx; cases hx
  rw [cell_of_row w b j _ _ _ hb, bytesRow_at _ _ _ (by simpa using hj)]
  rw [List.getElem?_eq_getElem hj] at hx
  injection hx with hx
  simp [hx]
theorem tab_round {w w9 : World} {B g : Nat} {cs : Array Value} {dn dn' : UInt8 → Bool} {v2 : Value} {xs : List (List UInt8)} (hB : Blk w9 g 289 cs) (hz : cs.size = 257) (hT : TabOk w9 cs dn) (hO : OwnS w9 B v2 xs) (hL : Below B w w9) (hBg : B ≤ g)
    (o : UInt8) (n : List UInt8) (hn : wdB o = n) (ko ln : Nat) (hko : ko = o.toNat) (hln : ln = n.length) (hdn : dn' = fun c => dn c || decide (c = o)) (c rc : Nat) (fr : Nat × Nat) :
    ∃ cs2, Blk (((w9.setCell ⟨g, 256, none⟩ v2).setCell ⟨g, ko, none⟩ (.slice (some ⟨w9.heap.size, 0, none⟩) ln c)).alloc (.cells (bytesRow ⟨n.toArray⟩ rc) 5 fr)).drew g 289 cs2 ∧ cs2.size = 257 ∧ cs2[256]? = some v2 ∧ OwnS (((w9.setCell ⟨g, 256, none⟩ v2).setCell ⟨g, ko, none⟩ (.slice (some ⟨w9.heap.size, 0, none⟩) ln c)).alloc (.cells (bytesRow ⟨n.toArray⟩ rc) 5 fr)).drew B v2 xs ∧ TabOk (((w9.setCell ⟨g, 256, none⟩ v2).setCell ⟨g, ko, none⟩ (.slice (some ⟨w9.heap.size, 0, none⟩) ln c)).alloc (.cells (bytesRow ⟨n.toArray⟩ rc) 5 fr)).drew cs2 dn' ∧ Below B w (((w9.setCell ⟨g, 256, none⟩ v2).setCell ⟨g, ko, none⟩ (.slice (some ⟨w9.heap.size, 0, none⟩) ln c)).alloc (.cells (bytesRow ⟨n.toArray⟩ rc) 5 fr)).drew := by
  subst hn
  subst hko
  subst hln
  subst hdn
  have ho := o.toNat_lt
  have ho' : o.toNat < 256 := ho
  have hlt := hB.lt
  have b1 := hB.set_ 256 v2
  have b2 := b1.set_ o.toNat (.slice (some ⟨w9.heap.size, 0, none⟩) (wdB o).length c)
  have b3 : Blk (((w9.setCell ⟨g, 256, none⟩ v2).setCell ⟨g, o.toNat, none⟩ (.slice (some ⟨w9.heap.size, 0, none⟩) (wdB o).length c)).alloc (.cells (bytesRow ⟨(wdB o).toArray⟩ rc) 5 fr)).drew g _ _ := (b2.alloc _).drew
  have k3 := (((Keep8.set_ hB 256 v2).trans (Keep8.set_ b1 o.toNat (.slice (some ⟨w9.heap.size, 0, none⟩) (wdB o).length c))).trans (Keep8.alloc _ (.cells (bytesRow ⟨(wdB o).toArray⟩ rc) 5 fr))).drew
  have hne : v2.ownBlock ≠ some g := own_blk_ne hO hB (by decide)
  have hgrow : w9.grownBy (((w9.setCell ⟨g, 256, none⟩ v2).setCell ⟨g, o.toNat, none⟩ (.slice (some ⟨w9.heap.size, 0, none⟩) (wdB o).length c)).alloc (.cells (bytesRow ⟨(wdB o).toArray⟩ rc) 5 fr)).drew (some g) := by
    refine ⟨rfl, rfl, rfl, by simp, fun i hi hig => ?_⟩
    have hig' : i ≠ g := fun e => hig (by rw [e])
    have e1 := Below.heap_setCell (w9.setCell ⟨g, 256, none⟩ v2) ⟨g, o.toNat, none⟩ (.slice (some ⟨w9.heap.size, 0, none⟩) (wdB o).length c) i hig'
    have e2 := Below.heap_alloc ((w9.setCell ⟨g, 256, none⟩ v2).setCell ⟨g, o.toNat, none⟩ (.slice (some ⟨w9.heap.size, 0, none⟩) (wdB o).length c)) (.cells (bytesRow ⟨(wdB o).toArray⟩ rc) 5 fr) i (by simpa using hi)
    have e3 := Below.heap_setCell w9 ⟨g, 256, none⟩ v2 i hig'
    exact e2.trans (e1.trans e3)
  have hsz : (cs.setIfInBounds 256 v2).size = 257 := by simp [hz]
  have hnew : (((w9.setCell ⟨g, 256, none⟩ v2).setCell ⟨g, o.toNat, none⟩ (.slice (some ⟨w9.heap.size, 0, none⟩) (wdB o).length c)).alloc (.cells (bytesRow ⟨(wdB o).toArray⟩ rc) 5 fr)).drew.heap[w9.heap.size]? = some (Obj.cells (bytesRow ⟨(wdB o).toArray⟩ rc) 5 fr) := by
    have := heap_alloc_new ((w9.setCell ⟨g, 256, none⟩ v2).setCell ⟨g, o.toNat, none⟩ (.slice (some ⟨w9.heap.size, 0, none⟩) (wdB o).length c)) (.cells (bytesRow ⟨(wdB o).toArray⟩ rc) 5 fr)
    have e : ((w9.setCell ⟨g, 256, none⟩ v2).setCell ⟨g, o.toNat, none⟩ (.slice (some ⟨w9.heap.size, 0, none⟩) (wdB o).length c)).heap.size = w9.heap.size := by simp
    rw [e] at this
    exact this
  refine ⟨_, b3, by rw [Array.size_setIfInBounds]; exact hsz, ?_, hO.kept hgrow (.inr hne), ((hT.other v2).keep k3).put o w9.heap.size c rc hsz fr hnew, hL.grown hgrow (by omega) ?_⟩
  · rw [Array.getElem?_setIfInBounds_ne (by omega), Array.getElem?_setIfInBounds_self_of_lt (by omega)]
  · intro k hk
    injection hk with hk
    omega
/-- the table before a letter is put -/
def row0 (v : Value) : Array Value := (List.replicate 256 (Value.slice none 0 0) ++ [v]).toArray
theorem row0_size (v : Value) : (row0 v).size = 257 := by rw [row0, List.size_toArray, List.length_append, List.length_replicate]; rfl
theorem row0_ok (w : World) (v : Value) : TabOk w (row0 v) (fun _ => false) := fun c => by
  have hc := c.toNat_lt
  have hc' : c.toNat < 256 := hc
  refine ⟨.slice none 0 0, ?_, fun _ => rfl, fun h => by cases h⟩
  rw [row0, List.getElem?_toArray, List.getElem?_append_left (by rw [List.length_replicate]; exact hc'), List.getElem?_replicate, if_pos hc']
theorem row0_last (v : Value) : (row0 v)[256]? = some v := by
  rw [row0, List.getElem?_toArray, List.getElem?_append_right (by rw [List.length_replicate]; exact Nat.le_refl _), List.length_replicate]; rfl
theorem zero_list (v : Value) : Tryz.zeroCells289.toList.set 256 v = (row0 v).toList := by
  rw [row0]
  kernel_rfl
end Go.Proofs.YtmpgokijlikddaaGreatDoor
