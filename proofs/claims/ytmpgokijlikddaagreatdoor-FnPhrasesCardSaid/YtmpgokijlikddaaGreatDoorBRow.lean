/- Slices of bytes that a call has made: how they lie, how one or two more are put behind, how they are turned to a string. Conditions: that the slice owns its row of cells. -/
import Derived.Test.YtmpgokijlikddaaGreatDoorGrow
import Derived.Laws.IdiomStrings
namespace Go.Proofs.YtmpgokijlikddaaGreatDoor
open Go.RowKit
def bv (c : UInt8) : Value := .int .u8 (c.toNat : Int)
/-- the slice value v owns the bytes l, in a block from base on -/
def OwnB (w : World) (base : Nat) (v : Value) (l : List UInt8) : Prop := w.ownsRow base 5 1 v l.length (l.map bv)
theorem OwnB.mono {w : World} {b b' : Nat} {v : Value} {l : List UInt8} (h : OwnB w b v l) (hb : b' ≤ b) : OwnB w b' v l := World.ownsRow.mono h hb
theorem OwnB.lt {w : World} {b : Nat} {v : Value} {l : List UInt8} (h : OwnB w b v l) : ∀ k, v.ownBlock = some k → b ≤ k ∧ k < w.heap.size := World.ownsRow.lt h
theorem OwnB.kept {w w' : World} {b : Nat} {v : Value} {l : List UInt8} {row : Option Nat} (h : OwnB w b v l) (hg : w.grownBy w' row) (hne : v.ownBlock = none ∨ v.ownBlock ≠ row) : OwnB w' b v l := World.ownsRow.kept h hg hne
theorem OwnB.below {w w' : World} {b : Nat} {v : Value} {l : List UInt8} (h : OwnB w b v l) (hb : Below w.heap.size w w') : OwnB w' b v l :=
  h.kept (grown_of_below hb none) (by cases hv : v.ownBlock <;> simp)
theorem OwnB.drewN {w : World} {b : Nat} {v : Value} {l : List UInt8} (h : OwnB w b v l) (n : Nat) : OwnB (w.drewN n) b v l := h
theorem OwnB.drew {w : World} {b : Nat} {v : Value} {l : List UInt8} (h : OwnB w b v l) : OwnB w.drew b v l := h
theorem OwnB.alloc {w : World} {b : Nat} {v : Value} {l : List UInt8} (h : OwnB w b v l) (o : Obj) : OwnB (w.alloc o) b v l := World.ownsRow.alloc h o
theorem OwnB.to {w : World} {b : Nat} {v : Value} {l m : List UInt8} (h : OwnB w b v l) (e : l = m) : OwnB w b v m := e ▸ h
theorem OwnB.opened {w : World} {b : Nat} {v : Value} {l : List UInt8} (h : OwnB w b v l) :
    l.length ≤ 9223372036854775807 ∧ ∃ A c, v = .slice A l.length c ∧ (0 < l.length → ∃ g, A = some ⟨g, 0, none⟩ ∧ b ≤ g ∧ g < w.heap.size ∧
      (∀ j, j < l.length → w.cell? ⟨g, j, none⟩ = some (.int .u8 ((l.getD j 0).toNat : Int))) ∧ (∀ j, w.frozen? ⟨g, j, none⟩ = false)) := by
  rcases h.2 with ⟨rfl, hn⟩ | ⟨g, cap, cur, rfl, hbase, hblk, hnc, hcm, hsz, htk⟩
  · exact ⟨by omega, none, 0, by rw [hn], fun hp => absurd hp (by omega)⟩
  · refine ⟨by unfold maxLen at hcm; omega, _, cap, rfl, fun hp => ⟨g, rfl, hbase, ?_, ?_, ?_⟩⟩
    · exact (World.ownsRow.lt h g rfl).2
    · intro j hj
      have := World.ownsRow.cellAt (n := l.length) (size := 1) h j (by omega)
      rw [this, List.getElem?_map, List.getElem?_eq_getElem hj]
      simp [hj, bv]
    · exact fun j => World.ownsRow.frozenAt h j
theorem OwnB.cap {w : World} {b n c g : Nat} {l : List UInt8} (h : OwnB w b (.slice (some ⟨g, 0, none⟩) n c) l) : n ≤ c ∧ n = l.length := by
  rcases h.2 with ⟨e, _⟩ | ⟨g', cap, cur, e, hbase, hblk, hnc, hcm, hsz, htk⟩
  · simp at e
  · injection e with e1 e2 e3
    subst e2
    subst e3
    exact ⟨hnc, rfl⟩
theorem OwnB.at_ {w : World} {b n c : Nat} {A : Option Addr} {l : List UInt8} (h : OwnB w b (.slice A n c) l) : n = l.length ∧ (0 < l.length → ∃ g, A = some ⟨g, 0, none⟩ ∧ b ≤ g ∧ g < w.heap.size ∧
      (∀ j, j < l.length → w.cell? ⟨g, j, none⟩ = some (.int .u8 ((l.getD j 0).toNat : Int))) ∧ (∀ j, w.frozen? ⟨g, j, none⟩ = false)) := by
  obtain ⟨_, A', c', e, P⟩ := h.opened
  injection e with e1 e2 e3
  subst e1
  exact ⟨e2, P⟩
theorem addr_add (g j : Nat) : (⟨g, 0, none⟩ : Addr).add j = ⟨g, j, none⟩ := by unfold Addr.add; split <;> simp_all
theorem OwnB.back {w : World} {b n c g k : Nat} {l m : List UInt8} (h : OwnB w b (.slice (some ⟨g, 0, none⟩) n c) l) (hk : k = m.length) (hm : m = l.take k) (c2 : Nat) :
    (convert 22 9 (.slice (some ⟨g, 0, none⟩) k c2)).run Tryz.prog w = .ok (.string ⟨m.toArray⟩) w := by
  obtain ⟨hn, P⟩ := h.at_
  subst hk
  have hle : m.length ≤ l.length := by rw [hm, List.length_take]; exact Nat.min_le_right _ _
  refine run_convert_bytes_back w 22 9 5 ⟨g, 0, none⟩ c2 m Tryz.underlying22 Tryz.underlying5 Tryz.underlying9 fun j hj => ?_
  obtain ⟨g', hg, _, _, hc, _⟩ := P (by omega)
  injection hg with hg
  injection hg with hg
  subst hg
  have e2 : l.getD j 0 = m[j] := by
    rw [List.getD_eq_getElem?_getD, List.getElem?_eq_getElem (by omega)]
    have : m[j] = (l.take m.length)[j]'(by rw [← hm]; exact hj) := by congr 1
    rw [this, List.getElem_take]; rfl
  rw [addr_add, hc j (by omega), e2]
theorem infoB : (Tryz.prog.info? 5).map (fun i => (i.zero, i.size, i.bytes)) = some (some (.int .u8 0), 1, 1) := by kernel_rfl
/-- append(out, y) where out is a row of the call's own -/
theorem wpList_appB {ops : Array Oper} {rest : List Oper} {o : Oper} {a : Act} {Q : Exit → Act → World → Prop} (hgd : o.guard = none) (s x : Operand)
    (ho : o.op = .call { callee := .builtin .append, args := #[s, x], argTypes := #[22, 22] }) (wr : World) (base : Nat) (v : Value) (l : List UInt8) (y : UInt8) (u : Value) (hu : u = .int .u8 (y.toNat : Int))
    (hs : a.eval s = v) (hown : OwnB wr base v l) (g : Nat) (hg : g = wr.heap.size) (hx : a.eval x = .slice (some ⟨g, 0, none⟩) 1 1) (hlen : l.length ≤ 10000000) (hbase : base ≤ wr.heap.size)
    (h : ∀ v' w', OwnB w' base v' (l ++ [y]) → wr.grownBy w' v.ownBlock → wpList Tryz.prog ops Q rest (a.put o.dst v') w') :
    wpList Tryz.prog ops Q (o :: rest) a (wr.alloc (.cells #[u] 5)) := by
  subst hg
  subst hu
  obtain ⟨i0, hi, hz0, hz1, hz2⟩ := info_parts infoB
  refine wpList_append_own _ hgd s x 22 ho base 5 i0 (.int .u8 0) 1 1 Tryz.underlying22 hi hz0 hz1 hz2 rfl (by decide) v l.length (l.map bv) hs (World.ownsRow.alloc hown _)
    ⟨wr.heap.size, 0, none⟩ 1 1 [.int .u8 (y.toNat : Int)] hx rfl ?_ ?_ ?_ ?_ ?_ ?_
  · intro j u hu
    cases j with
    | zero => simp at hu; subst hu; exact (Blk.new wr _ _).c0
    | succ j => simp at hu
  · intro u hu; simp at hu; subst hu; rfl
  · unfold maxLen; omega
  · omega
  · simp; omega
  · intro v' w' hown' hgr _
    refine h v' w' ?_ (grown_trans (World.grownBy_alloc wr _ _) hgr)
    unfold OwnB; rw [List.length_append, List.map_append]; exact hown'
/-- append(out, y, z) -/
theorem wpList_appB2 {ops : Array Oper} {rest : List Oper} {o : Oper} {a : Act} {Q : Exit → Act → World → Prop} (hgd : o.guard = none) (s x : Operand)
    (ho : o.op = .call { callee := .builtin .append, args := #[s, x], argTypes := #[22, 22] }) (wr : World) (base : Nat) (v : Value) (l : List UInt8) (y z : UInt8) (u1 u2 : Value) (hu1 : u1 = .int .u8 (y.toNat : Int)) (hu2 : u2 = .int .u8 (z.toNat : Int))
    (hs : a.eval s = v) (hown : OwnB wr base v l) (g : Nat) (hg : g = wr.heap.size) (hx : a.eval x = .slice (some ⟨g, 0, none⟩) 2 2) (hlen : l.length ≤ 10000000) (hbase : base ≤ wr.heap.size)
    (h : ∀ v' w', OwnB w' base v' (l ++ [y, z]) → wr.grownBy w' v.ownBlock → wpList Tryz.prog ops Q rest (a.put o.dst v') w') :
    wpList Tryz.prog ops Q (o :: rest) a (wr.alloc (.cells #[u1, u2] 5)) := by
  subst hg
  subst hu1
  subst hu2
  obtain ⟨i0, hi, hz0, hz1, hz2⟩ := info_parts infoB
  refine wpList_append_own _ hgd s x 22 ho base 5 i0 (.int .u8 0) 1 1 Tryz.underlying22 hi hz0 hz1 hz2 rfl (by decide) v l.length (l.map bv) hs (World.ownsRow.alloc hown _)
    ⟨wr.heap.size, 0, none⟩ 2 2 [.int .u8 (y.toNat : Int), .int .u8 (z.toNat : Int)] hx rfl ?_ ?_ ?_ ?_ ?_ ?_
  · intro j u hu
    match j, hu with
    | 0, hu => simp at hu; subst hu; exact (Blk.new wr _ _).c0
    | 1, hu => simp at hu; subst hu; exact (Blk.new wr _ _).c1
    | j + 2, hu => simp at hu
  · intro u hu; simp at hu; rcases hu with rfl | rfl <;> rfl
  · unfold maxLen; omega
  · omega
  · simp; omega
  · intro v' w' hown' hgr _
    refine h v' w' ?_ (grown_trans (World.grownBy_alloc wr _ _) hgr)
    unfold OwnB; rw [List.length_append, List.map_append]; exact hown'
theorem OwnB.below_grown {B : Nat} {a w w' : World} {v : Value} {l : List UInt8} (hv : OwnB w B v l) (h : Below B a w) (hg : w.grownBy w' v.ownBlock) (hB : B ≤ w.heap.size) : Below B a w' :=
  h.grown hg hB fun k hk => (hv.lt k hk).1
theorem OwnB.far {w : World} {b g n c : Nat} {v : Value} {l : List UInt8} (h : OwnB w b v l) (hg : g < b) : (Value.slice (some ⟨g, 0, none⟩) n c).ownBlock = none ∨ (Value.slice (some ⟨g, 0, none⟩) n c).ownBlock ≠ v.ownBlock := by
  refine .inr fun e => ?_
  have := (h.lt g (by rw [← e]; rfl)).1
  omega
/-- the empty literal -/
theorem OwnB.lit0 (w : World) : OwnB (w.alloc (.cells #[] 5)) w.heap.size (.slice (some ⟨w.heap.size, 0, none⟩) 0 0) [] := World.ownsRow_lit w #[] 0 (Nat.le_refl _) (by unfold maxLen; omega) rfl
end Go.Proofs.YtmpgokijlikddaaGreatDoor
