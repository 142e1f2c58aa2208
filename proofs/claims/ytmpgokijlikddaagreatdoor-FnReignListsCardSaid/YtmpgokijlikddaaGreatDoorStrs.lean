/- Slices of strings that a call has made: read and grown. Conditions: that the slice owns its row of cells. -/
import Derived.Test.YtmpgokijlikddaaGreatDoorBlk
import Derived.Deep.AppendLies
import Derived.Deep.Onto
import Derived.OwnWalk
namespace Go.Proofs.YtmpgokijlikddaaGreatDoor
open Go.RowKit
def sv (x : List UInt8) : Value := .string ⟨x.toArray⟩
/-- the slice value v owns the words xs, in a block from base on -/
def OwnS (w : World) (base : Nat) (v : Value) (xs : List (List UInt8)) : Prop := w.ownsRow base 9 1 v xs.length (xs.map sv)
theorem OwnS.nil (w : World) (base : Nat) : OwnS w base (.slice none 0 0) [] := World.ownsRow_nil w base _ 1
theorem OwnS.mono {w : World} {b b' : Nat} {v : Value} {xs : List (List UInt8)} (h : OwnS w b v xs) (hb : b' ≤ b) : OwnS w b' v xs := World.ownsRow.mono h hb
theorem OwnS.lt {w : World} {b : Nat} {v : Value} {xs : List (List UInt8)} (h : OwnS w b v xs) : ∀ k, v.ownBlock = some k → b ≤ k ∧ k < w.heap.size := World.ownsRow.lt h
theorem OwnS.kept {w w' : World} {b : Nat} {v : Value} {xs : List (List UInt8)} {row : Option Nat} (h : OwnS w b v xs) (hg : w.grownBy w' row) (hne : v.ownBlock = none ∨ v.ownBlock ≠ row) : OwnS w' b v xs := World.ownsRow.kept h hg hne
theorem grownB {a w : World} (h : Below a.heap.size a w) (row : Option Nat) : a.grownBy w row := ⟨h.os, h.tape, h.output, h.size, fun i hi _ => h.block i hi⟩
theorem grownT {a b c : World} {row : Option Nat} (h : a.grownBy b row) (k : b.grownBy c row) : a.grownBy c row :=
  ⟨k.os.trans h.os, k.tape.trans h.tape, k.output.trans h.output, Nat.le_trans h.size k.size, fun i hi hn => (k.block i (Nat.lt_of_lt_of_le hi h.size) hn).trans (h.block i hi hn)⟩
theorem OwnS.below {w w' : World} {b : Nat} {v : Value} {xs : List (List UInt8)} (h : OwnS w b v xs) (hb : Below w.heap.size w w') : OwnS w' b v xs :=
  h.kept (grownB hb none) (by cases hv : v.ownBlock <;> simp)
theorem OwnS.drewN {w : World} {b : Nat} {v : Value} {xs : List (List UInt8)} (h : OwnS w b v xs) (n : Nat) : OwnS (w.drewN n) b v xs := h
theorem OwnS.alloc {w : World} {b : Nat} {v : Value} {xs : List (List UInt8)} (h : OwnS w b v xs) (o : Obj) : OwnS (w.alloc o) b v xs := World.ownsRow.alloc h o
theorem OwnS.lit (w : World) (base : Nat) (cs : Array Value) (xs : List (List UInt8)) (hcs : cs = (xs.map sv).toArray) (hb : base ≤ w.heap.size) (hm : xs.length ≤ maxLen) :
    OwnS (w.alloc (.cells cs 9)) base (.slice (some ⟨w.heap.size, 0, none⟩) xs.length xs.length) xs := by
  subst hcs
  have := World.ownsRow_lit (base := base) (e := 9) (size := 1) w (xs.map sv).toArray xs.length hb hm (by simp)
  simpa [OwnS] using this
theorem OwnS.opened {w : World} {b : Nat} {v : Value} {xs : List (List UInt8)} (h : OwnS w b v xs) :
    xs.length ≤ 9223372036854775807 ∧ ∃ A c, v = .slice A xs.length c ∧ (0 < xs.length → ∃ g, A = some ⟨g, 0, none⟩ ∧ b ≤ g ∧ g < w.heap.size ∧
      (∀ j, j < xs.length → w.cell? ⟨g, j, none⟩ = some (.string ⟨(xs.getD j []).toArray⟩)) ∧ (∀ j, w.frozen? ⟨g, j, none⟩ = false)) := by
  rcases h.2 with ⟨rfl, hn⟩ | ⟨g, cap, cur, rfl, hbase, hblk, hnc, hcm, hsz, htk⟩
  · exact ⟨by omega, none, 0, by rw [hn], fun hp => absurd hp (by omega)⟩
  · refine ⟨by unfold maxLen at hcm; omega, _, cap, rfl, fun hp => ⟨g, rfl, hbase, ?_, ?_, ?_⟩⟩
    · exact (World.ownsRow.lt h g rfl).2
    · intro j hj
      have := World.ownsRow.cellAt (n := xs.length) (size := 1) h j (by omega)
      rw [this, List.getElem?_map, List.getElem?_eq_getElem hj]
      simp [hj, sv]
    · exact fun j => World.ownsRow.frozenAt h j
theorem OwnS.openedC {w : World} {b : Nat} {v : Value} {xs : List (List UInt8)} (h : OwnS w b v xs) (hp : 0 < xs.length) :
    ∃ g c, v = .slice (some ⟨g, 0, none⟩) xs.length c ∧ b ≤ g ∧ g < w.heap.size ∧ xs.length ≤ c ∧ c ≤ 9223372036854775807 ∧
      (∀ j, j < xs.length → w.cell? ⟨g, j, none⟩ = some (.string ⟨(xs.getD j []).toArray⟩)) ∧ (∀ j, w.frozen? ⟨g, j, none⟩ = false) := by
  rcases h.2 with ⟨rfl, hn⟩ | ⟨g, cap, cur, rfl, hbase, hblk, hnc, hcm, hsz, htk⟩
  · omega
  · refine ⟨g, cap, rfl, hbase, (World.ownsRow.lt h g rfl).2, hnc, by unfold maxLen at hcm; omega, ?_, fun j => World.ownsRow.frozenAt h j⟩
    intro j hj
    have := World.ownsRow.cellAt (n := xs.length) (size := 1) h j (by omega)
    rw [this, List.getElem?_map, List.getElem?_eq_getElem hj]
    simp [hj, sv]
theorem infoS : (Tryz.prog.info? 9).map (fun i => (i.zero, i.size, i.bytes)) = some (some (.string ByteArray.empty), 1, 16) := by kernel_rfl
theorem OwnS.snoc {w : World} {b : Nat} {v : Value} {xs : List (List UInt8)} {y : List UInt8} (h : w.ownsRow b 9 1 v (xs.length + 1) (xs.map sv ++ [.string ⟨y.toArray⟩])) : OwnS w b v (xs ++ [y]) := by
  unfold OwnS; rw [List.length_append, List.map_append]; exact h
/-- append(out, y) where out is a row of the call's own. -/
theorem wpList_appS {ops : Array Oper} {rest : List Oper} {o : Oper} {a : Act} {Q : Exit → Act → World → Prop} (hgd : o.guard = none) (s x : Operand)
    (ho : o.op = .call { callee := .builtin .append, args := #[s, x], argTypes := #[59, 59] }) (wr : World) (base : Nat) (v : Value) (xs : List (List UInt8)) (y : List UInt8) (u : Value) (hu : u = .string ⟨y.toArray⟩)
    (hs : a.eval s = v) (hown : OwnS wr base v xs) (hx : a.eval x = .slice (some ⟨wr.heap.size, 0, none⟩) 1 1) (hlen : xs.length ≤ 10000000) (hbase : base ≤ wr.heap.size)
    (h : ∀ v' w', OwnS w' base v' (xs ++ [y]) → wr.grownBy w' v.ownBlock → wpList Tryz.prog ops Q rest (a.put o.dst v') w') :
    wpList Tryz.prog ops Q (o :: rest) a (wr.alloc (.cells #[u] 9)) := by
  subst hu
  obtain ⟨i0, hi, hz0, hz1, hz2⟩ := info_parts infoS
  refine wpList_append_own _ hgd s x 59 ho base 9 i0 (.string ByteArray.empty) 1 16 Tryz.underlying59 hi hz0 hz1 hz2 rfl (by decide) v xs.length (xs.map sv) hs (World.ownsRow.alloc hown _)
    ⟨wr.heap.size, 0, none⟩ 1 1 [.string ⟨y.toArray⟩] hx rfl ?_ ?_ ?_ ?_ ?_ ?_
  · intro j u hu
    cases j with
    | zero => simp at hu; subst hu; exact (Blk.new wr _ _).c0
    | succ j => simp at hu
  · intro u hu; simp at hu; subst hu; rfl
  · unfold maxLen; omega
  · omega
  · simp; omega
  · intro v' w' hown' hgr _
    exact h v' w' (OwnS.snoc hown') (grownT (World.grownBy_alloc wr _ _) hgr)
/-- append(out, y, z) where out is a row of the call's own. -/
theorem wpList_appS2 {ops : Array Oper} {rest : List Oper} {o : Oper} {a : Act} {Q : Exit → Act → World → Prop} (hgd : o.guard = none) (s x : Operand)
    (ho : o.op = .call { callee := .builtin .append, args := #[s, x], argTypes := #[59, 59] }) (wr : World) (base : Nat) (v : Value) (xs : List (List UInt8)) (y z : List UInt8)
    (hs : a.eval s = v) (hown : OwnS wr base v xs) (hx : a.eval x = .slice (some ⟨wr.heap.size, 0, none⟩) 2 2) (hlen : xs.length ≤ 10000000) (hbase : base ≤ wr.heap.size)
    (h : ∀ v' w', OwnS w' base v' (xs ++ [y, z]) → wr.grownBy w' v.ownBlock → wpList Tryz.prog ops Q rest (a.put o.dst v') w') :
    wpList Tryz.prog ops Q (o :: rest) a (wr.alloc (.cells #[.string ⟨y.toArray⟩, .string ⟨z.toArray⟩] 9)) := by
  obtain ⟨i0, hi, hz0, hz1, hz2⟩ := info_parts infoS
  refine wpList_append_own _ hgd s x 59 ho base 9 i0 (.string ByteArray.empty) 1 16 Tryz.underlying59 hi hz0 hz1 hz2 rfl (by decide) v xs.length (xs.map sv) hs (World.ownsRow.alloc hown _)
    ⟨wr.heap.size, 0, none⟩ 2 2 [.string ⟨y.toArray⟩, .string ⟨z.toArray⟩] hx rfl ?_ ?_ ?_ ?_ ?_ ?_
  · intro j u hu
    match j, hu with
    | 0, hu => simp at hu; subst hu; exact (Blk.new wr _ _).c0
    | 1, hu => simp at hu; subst hu; exact (Blk.new wr _ _).c1
    | j + 2, hu => simp at hu
  · intro u hu; simp at hu; rcases hu with rfl | rfl <;> rfl
  · unfold maxLen; omega
  · omega
  · simp; omega
  · intro v' w' hown' hgr _
    refine h v' w' ?_ (grownT (World.grownBy_alloc wr _ _) hgr)
    unfold OwnS; rw [List.length_append, List.map_append]; exact hown'
theorem OwnS.below_grown {B : Nat} {a w w' : World} {v : Value} {xs : List (List UInt8)} (hv : OwnS w B v xs) (h : Below B a w) (hg : w.grownBy w' v.ownBlock) (hB : B ≤ w.heap.size) : Below B a w' :=
  h.grown hg hB fun k hk => (hv.lt k hk).1
end Go.Proofs.YtmpgokijlikddaaGreatDoor
