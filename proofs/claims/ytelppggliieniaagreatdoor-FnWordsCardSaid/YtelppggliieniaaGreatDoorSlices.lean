/- Slices of int64 that a call has made: read, compared, marked. Conditions: that the slice owns its row of cells. -/
import Derived.Test.YtelppggliieniaaGreatDoorGrow
import Derived.Deep.AppendLies
import Derived.Deep.Onto
import Derived.OwnWalk
namespace Go.Proofs.YtelppggliieniaaGreatDoor
open Go.RowKit
/-- the slice value v owns the cells xs, in a block from base on -/
def OwnI (w : World) (base : Nat) (v : Value) (xs : List Int) : Prop := w.ownsRow base 2 1 v xs.length (xs.map (Value.int .i64))
theorem OwnI.nil (w : World) (base : Nat) : OwnI w base (.slice none 0 0) [] := World.ownsRow_nil w base _ 1
theorem OwnI.mono {w : World} {b b' : Nat} {v : Value} {xs : List Int} (h : OwnI w b v xs) (hb : b' ≤ b) : OwnI w b' v xs := World.ownsRow.mono h hb
theorem OwnI.lt {w : World} {b : Nat} {v : Value} {xs : List Int} (h : OwnI w b v xs) : ∀ k, v.ownBlock = some k → b ≤ k ∧ k < w.heap.size := World.ownsRow.lt h
theorem OwnI.kept {w w' : World} {b : Nat} {v : Value} {xs : List Int} {row : Option Nat} (h : OwnI w b v xs) (hg : w.grownBy w' row) (hne : v.ownBlock = none ∨ v.ownBlock ≠ row) : OwnI w' b v xs := World.ownsRow.kept h hg hne
theorem OwnI.below {w w' : World} {b : Nat} {v : Value} {xs : List Int} (h : OwnI w b v xs) (hb : Below w.heap.size w w') : OwnI w' b v xs :=
  h.kept (grown_of_below hb none) (by cases hv : v.ownBlock <;> simp)
theorem OwnI.drewN {w : World} {b : Nat} {v : Value} {xs : List Int} (h : OwnI w b v xs) (n : Nat) : OwnI (w.drewN n) b v xs := h
theorem OwnI.alloc {w : World} {b : Nat} {v : Value} {xs : List Int} (h : OwnI w b v xs) (o : Obj) : OwnI (w.alloc o) b v xs := World.ownsRow.alloc h o
theorem OwnI.opened {w : World} {b : Nat} {v : Value} {xs : List Int} (h : OwnI w b v xs) :
    xs.length ≤ 9223372036854775807 ∧ ∃ A c, v = .slice A xs.length c ∧ (0 < xs.length → ∃ g, A = some ⟨g, 0, none⟩ ∧ b ≤ g ∧ g < w.heap.size ∧
      (∀ j, j < xs.length → w.cell? ⟨g, j, none⟩ = some (.int .i64 (xs[j]!))) ∧ (∀ j, w.frozen? ⟨g, j, none⟩ = false)) := by
  rcases h.2 with ⟨rfl, hn⟩ | ⟨g, cap, cur, rfl, hbase, hblk, hnc, hcm, hsz, htk⟩
  · exact ⟨by omega, none, 0, by rw [hn], fun hp => absurd hp (by omega)⟩
  · refine ⟨by unfold maxLen at hcm; omega, _, cap, rfl, fun hp => ⟨g, rfl, hbase, ?_, ?_, ?_⟩⟩
    · exact (World.ownsRow.lt h g rfl).2
    · intro j hj
      have := World.ownsRow.cellAt (n := xs.length) (size := 1) h j (by omega)
      rw [this, List.getElem?_map, List.getElem?_eq_getElem hj]
      simp [hj]
    · exact fun j => World.ownsRow.frozenAt h j
theorem infoI : (Tryz.prog.info? 2).map (fun i => (i.zero, i.size, i.bytes)) = some (some (.int .i64 0), 1, 8) := by kernel_rfl
theorem OwnI.snoc {w : World} {b : Nat} {v : Value} {xs : List Int} {y : Int} (h : w.ownsRow b 2 1 v (xs.length + 1) (xs.map (Value.int .i64) ++ [.int .i64 y])) : OwnI w b v (xs ++ [y]) := by
  unfold OwnI; rw [List.length_append, List.map_append]; exact h
/-- append(out, y) where out is a row of the call's own. -/
theorem wpList_appI {ops : Array Oper} {rest : List Oper} {o : Oper} {a : Act} {Q : Exit → Act → World → Prop} (hgd : o.guard = none) (s x : Operand)
    (ho : o.op = .call { callee := .builtin .append, args := #[s, x], argTypes := #[33, 33] }) (wr : World) (base : Nat) (v : Value) (xs : List Int) (y : Int)
    (hs : a.eval s = v) (hown : OwnI wr base v xs) (hx : a.eval x = .slice (some ⟨wr.heap.size, 0, none⟩) 1 1) (hlen : xs.length ≤ 10000000) (hbase : base ≤ wr.heap.size)
    (h : ∀ v' w', OwnI w' base v' (xs ++ [y]) → wr.grownBy w' v.ownBlock → wpList Tryz.prog ops Q rest (a.put o.dst v') w') :
    wpList Tryz.prog ops Q (o :: rest) a (wr.alloc (.cells #[.int .i64 y] 2)) := by
  obtain ⟨i0, hi, hz0, hz1, hz2⟩ := info_parts infoI
  refine wpList_append_own _ hgd s x 33 ho base 2 i0 (.int .i64 0) 1 8 Tryz.underlying33 hi hz0 hz1 hz2 rfl (by decide) v xs.length (xs.map (Value.int .i64)) hs (World.ownsRow.alloc hown _)
    ⟨wr.heap.size, 0, none⟩ 1 1 [.int .i64 y] hx rfl ?_ ?_ ?_ ?_ ?_ ?_
  · intro j u hu
    cases j with
    | zero => simp at hu; subst hu; exact (Blk.new wr _ _).c0
    | succ j => simp at hu
  · intro u hu; simp at hu; subst hu; rfl
  · unfold maxLen; omega
  · omega
  · simp; omega
  · intro v' w' hown' hgr _
    exact h v' w' (OwnI.snoc hown') (grown_trans (World.grownBy_alloc wr _ _) hgr)
/-- .. the new cell's block told by its number -/
theorem wpList_appI' {ops : Array Oper} {rest : List Oper} {o : Oper} {a : Act} {Q : Exit → Act → World → Prop} (hgd : o.guard = none) (s x : Operand)
    (ho : o.op = .call { callee := .builtin .append, args := #[s, x], argTypes := #[33, 33] }) (wr : World) (base : Nat) (v : Value) (xs : List Int) (y : Int)
    (hs : a.eval s = v) (hown : OwnI wr base v xs) (g : Nat) (hg : g = wr.heap.size) (hx : a.eval x = .slice (some ⟨g, 0, none⟩) 1 1) (hlen : xs.length ≤ 10000000) (hbase : base ≤ wr.heap.size)
    (h : ∀ v' w', OwnI w' base v' (xs ++ [y]) → wr.grownBy w' v.ownBlock → wpList Tryz.prog ops Q rest (a.put o.dst v') w') :
    wpList Tryz.prog ops Q (o :: rest) a (wr.alloc (.cells #[.int .i64 y] 2)) := by
  subst hg
  exact wpList_appI hgd s x ho wr base v xs y hs hown hx hlen hbase h
/-- the empty literal -/
theorem OwnI.lit0 (w : World) : OwnI (w.alloc (.cells #[] 2)) w.heap.size (.slice (some ⟨w.heap.size, 0, none⟩) 0 0) [] := World.ownsRow_lit w #[] 0 (Nat.le_refl _) (by unfold maxLen; omega) rfl
theorem own_ne {w1 w2 : World} {b B : Nat} {v0 v1 : Value} {xs ys : List Int} (h0 : OwnI w1 b v0 xs) (h1 : OwnI w2 B v1 ys) (hB : w1.heap.size ≤ B) : v0.ownBlock = none ∨ v0.ownBlock ≠ v1.ownBlock := by
  cases h : v0.ownBlock with
  | none => exact .inl rfl
  | some k =>
    refine .inr fun e => ?_
    have a := (h0.lt k h).2
    have b := (h1.lt k e.symm).1
    omega
theorem OwnI.below_grown {B : Nat} {a w w' : World} {v : Value} {xs : List Int} (hv : OwnI w B v xs) (h : Below B a w) (hg : w.grownBy w' v.ownBlock) (hB : B ≤ w.heap.size) : Below B a w' :=
  h.grown hg hB fun k hk => (hv.lt k hk).1
theorem OwnI.blk {w w' : World} {B g : Nat} {t : TypeId} {cs : Array Value} {v : Value} {xs : List Int} (hv : OwnI w B v xs) (hb : Blk w g t cs) (hg : w.grownBy w' v.ownBlock) (ht : 2 ≠ t) : Blk w' g t cs :=
  hb.grown hg (fun e => own_blk_ne hv hb ht e.symm)
theorem below_grown {a w w' : World} {b : Nat} {v : Value} {xs : List Int} (h : Below a.heap.size a w) (hg : w.grownBy w' v.ownBlock) (hv : OwnI w b v xs) (hb : a.heap.size ≤ b) : Below a.heap.size a w' :=
  h.grown hg h.size fun k hk => Nat.le_trans hb (hv.lt k hk).1
end Go.Proofs.YtelppggliieniaaGreatDoor
