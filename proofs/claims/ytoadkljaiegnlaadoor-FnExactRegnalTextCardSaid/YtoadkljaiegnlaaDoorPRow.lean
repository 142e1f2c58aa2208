/- Slices of spans that a call has made: how they lie, how one more is put behind. Conditions: that the slice owns its row of cells. -/
import Derived.Test.YtoadkljaiegnlaaDoorSlices
import Derived.Test.YtoadkljaiegnlaaDoorSpanP
namespace Go.Proofs.YtoadkljaiegnlaaDoor
open Go.RowKit
abbrev sp0 : Sp := (0, 0)
/-- the cells of a list of spans -/
def flatP : List Sp → List Value
  | [] => []
  | s :: l => .int .i64 s.1 :: .int .i64 s.2 :: flatP l
theorem flatP_len : ∀ l : List Sp, (flatP l).length = l.length * 2
  | [] => rfl
  | s :: l => by simp only [flatP, List.length_cons, flatP_len l]; omega
theorem flatP_0 : ∀ (l : List Sp) (j : Nat), j < l.length → (flatP l)[j * 2]? = some (.int .i64 (l.getD j sp0).1)
  | [], j, h => absurd h (Nat.not_lt_zero _)
  | s :: l, 0, _ => rfl
  | s :: l, j + 1, h => by
    have := flatP_0 l j (by simpa using h)
    rw [show (j + 1) * 2 = j * 2 + 1 + 1 from by omega]
    simpa [flatP] using this
theorem flatP_1 : ∀ (l : List Sp) (j : Nat), j < l.length → (flatP l)[j * 2 + 1]? = some (.int .i64 (l.getD j sp0).2)
  | [], j, h => absurd h (Nat.not_lt_zero _)
  | s :: l, 0, _ => rfl
  | s :: l, j + 1, h => by
    have := flatP_1 l j (by simpa using h)
    rw [show (j + 1) * 2 + 1 = j * 2 + 1 + 1 + 1 from by omega]
    simpa [flatP] using this
theorem flatP_app : ∀ (l m : List Sp), flatP (l ++ m) = flatP l ++ flatP m
  | [], m => rfl
  | s :: l, m => by simp [flatP, flatP_app l m]
theorem flatP_set0 : ∀ (l : List Sp) (j : Nat) (x : Int), j < l.length → (flatP l).set (j * 2) (.int .i64 x) = flatP (l.set j (x, (l.getD j sp0).2))
  | [], j, x, h => absurd h (Nat.not_lt_zero _)
  | s :: l, 0, x, _ => rfl
  | s :: l, j + 1, x, h => by
    have := flatP_set0 l j x (by simpa using h)
    rw [show (j + 1) * 2 = j * 2 + 1 + 1 from by omega]
    simp only [flatP, List.set_cons_succ, this]
    simp
theorem flatP_set1 : ∀ (l : List Sp) (j : Nat) (x : Int), j < l.length → (flatP l).set (j * 2 + 1) (.int .i64 x) = flatP (l.set j ((l.getD j sp0).1, x))
  | [], j, x, h => absurd h (Nat.not_lt_zero _)
  | s :: l, 0, x, _ => rfl
  | s :: l, j + 1, x, h => by
    have := flatP_set1 l j x (by simpa using h)
    rw [show (j + 1) * 2 + 1 = j * 2 + 1 + 1 + 1 from by omega]
    simp only [flatP, List.set_cons_succ, this]
    simp
theorem flatP_one : ∀ (l : List Sp) (u : Value), u ∈ flatP l → u.oneCell' = true
  | [], u, h => by simp [flatP] at h
  | s :: l, u, h => by
    simp only [flatP, List.mem_cons] at h
    rcases h with rfl | rfl | h
    · rfl
    · rfl
    · exact flatP_one l u h
/-- the slice value v owns the spans l, in a block from base on -/
def OwnP (w : World) (base : Nat) (v : Value) (l : List Sp) : Prop := w.ownsRow base 62 2 v l.length (flatP l)
theorem OwnP.nil (w : World) (base : Nat) : OwnP w base (.slice none 0 0) [] := World.ownsRow_nil w base _ 2
theorem OwnP.mono {w : World} {b b' : Nat} {v : Value} {l : List Sp} (h : OwnP w b v l) (hb : b' ≤ b) : OwnP w b' v l := World.ownsRow.mono h hb
theorem OwnP.lt {w : World} {b : Nat} {v : Value} {l : List Sp} (h : OwnP w b v l) : ∀ k, v.ownBlock = some k → b ≤ k ∧ k < w.heap.size := World.ownsRow.lt h
theorem OwnP.kept {w w' : World} {b : Nat} {v : Value} {l : List Sp} {row : Option Nat} (h : OwnP w b v l) (hg : w.grownBy w' row) (hne : v.ownBlock = none ∨ v.ownBlock ≠ row) : OwnP w' b v l := World.ownsRow.kept h hg hne
theorem OwnP.below {w w' : World} {b : Nat} {v : Value} {l : List Sp} (h : OwnP w b v l) (hb : Below w.heap.size w w') : OwnP w' b v l :=
  h.kept (grown_of_below hb none) (by cases hv : v.ownBlock <;> simp)
theorem OwnP.drewN {w : World} {b : Nat} {v : Value} {l : List Sp} (h : OwnP w b v l) (n : Nat) : OwnP (w.drewN n) b v l := h
theorem OwnP.drew {w : World} {b : Nat} {v : Value} {l : List Sp} (h : OwnP w b v l) : OwnP w.drew b v l := h
theorem OwnP.alloc {w : World} {b : Nat} {v : Value} {l : List Sp} (h : OwnP w b v l) (o : Obj) : OwnP (w.alloc o) b v l := World.ownsRow.alloc h o
theorem OwnP.opened {w : World} {b : Nat} {v : Value} {l : List Sp} (h : OwnP w b v l) :
    l.length ≤ 9223372036854775807 ∧ ∃ A c, v = .slice A l.length c ∧ (0 < l.length → ∃ g, A = some ⟨g, 0, none⟩ ∧ b ≤ g ∧ g < w.heap.size ∧
      (∀ j, j < l.length → w.cell? ⟨g, j * 2, none⟩ = some (.int .i64 (l.getD j sp0).1) ∧ w.cell? ⟨g, j * 2 + 1, none⟩ = some (.int .i64 (l.getD j sp0).2)) ∧ (∀ j, w.frozen? ⟨g, j, none⟩ = false)) := by
  rcases h.2 with ⟨rfl, hn⟩ | ⟨g, cap, cur, rfl, hbase, hblk, hnc, hcm, hsz, htk⟩
  · exact ⟨by omega, none, 0, by rw [hn], fun hp => absurd hp (by omega)⟩
  · refine ⟨by unfold maxLen at hcm; omega, _, cap, rfl, fun hp => ⟨g, rfl, hbase, ?_, ?_, ?_⟩⟩
    · exact (World.ownsRow.lt h g rfl).2
    · intro j hj
      have h0 := World.ownsRow.cellAt (n := l.length) (size := 2) h (j * 2) (by omega)
      have h1 := World.ownsRow.cellAt (n := l.length) (size := 2) h (j * 2 + 1) (by omega)
      exact ⟨h0.trans (flatP_0 l j hj), h1.trans (flatP_1 l j hj)⟩
    · exact fun j => World.ownsRow.frozenAt h j
theorem OwnP.at_ {w : World} {b n c : Nat} {A : Option Addr} {l : List Sp} (h : OwnP w b (.slice A n c) l) : n = l.length ∧ (0 < l.length → ∃ g, A = some ⟨g, 0, none⟩ ∧ b ≤ g ∧ g < w.heap.size ∧
      (∀ j, j < l.length → w.cell? ⟨g, j * 2, none⟩ = some (.int .i64 (l.getD j sp0).1) ∧ w.cell? ⟨g, j * 2 + 1, none⟩ = some (.int .i64 (l.getD j sp0).2)) ∧ (∀ j, w.frozen? ⟨g, j, none⟩ = false)) := by
  obtain ⟨_, A', c', e, P⟩ := h.opened
  injection e with e1 e2 e3
  subst e1
  exact ⟨e2, P⟩
theorem OwnP.atg {w : World} {b n c g : Nat} {l : List Sp} (h : OwnP w b (.slice (some ⟨g, 0, none⟩) n c) l) (hl : 0 < l.length) : n = l.length ∧ b ≤ g ∧ g < w.heap.size ∧
      (∀ j, j < l.length → w.cell? ⟨g, j * 2, none⟩ = some (.int .i64 (l.getD j sp0).1) ∧ w.cell? ⟨g, j * 2 + 1, none⟩ = some (.int .i64 (l.getD j sp0).2)) ∧ (∀ j, w.frozen? ⟨g, j, none⟩ = false) := by
  obtain ⟨e, P⟩ := h.at_
  obtain ⟨g', hg, P'⟩ := P hl
  injection hg with hg
  injection hg with hg
  subst hg
  exact ⟨e, P'⟩
theorem OwnP.snoc {w : World} {b : Nat} {v : Value} {l : List Sp} {s : Sp} (h : w.ownsRow b 62 2 v (l.length + 1) (flatP l ++ [.int .i64 s.1, .int .i64 s.2])) : OwnP w b v (l ++ [s]) := by
  unfold OwnP; rw [List.length_append, flatP_app]; exact h
theorem OwnP.set0 {w : World} {b g c n : Nat} {l : List Sp} (h : OwnP w b (.slice (some ⟨g, 0, none⟩) n c) l) (hn : n = l.length) (j : Nat) (hj : j < l.length) (x : Int) :
    OwnP (w.setCell ⟨g, j * 2, none⟩ (.int .i64 x)) b (.slice (some ⟨g, 0, none⟩) n c) (l.set j (x, (l.getD j sp0).2)) ∧ w.grownBy (w.setCell ⟨g, j * 2, none⟩ (.int .i64 x)) (some g) := by
  subst hn
  obtain ⟨a, k⟩ := World.ownsRow.stored h (j * 2) (.int .i64 x)
  refine ⟨?_, k⟩
  unfold OwnP
  rw [List.length_set, ← flatP_set0 l j x hj]
  exact a
theorem OwnP.set1 {w : World} {b g c n : Nat} {l : List Sp} (h : OwnP w b (.slice (some ⟨g, 0, none⟩) n c) l) (hn : n = l.length) (j : Nat) (hj : j < l.length) (x : Int) :
    OwnP (w.setCell ⟨g, j * 2 + 1, none⟩ (.int .i64 x)) b (.slice (some ⟨g, 0, none⟩) n c) (l.set j ((l.getD j sp0).1, x)) ∧ w.grownBy (w.setCell ⟨g, j * 2 + 1, none⟩ (.int .i64 x)) (some g) := by
  subst hn
  obtain ⟨a, k⟩ := World.ownsRow.stored h (j * 2 + 1) (.int .i64 x)
  refine ⟨?_, k⟩
  unfold OwnP
  rw [List.length_set, ← flatP_set1 l j x hj]
  exact a
theorem OwnP.setAt {w : World} {b g c n : Nat} {l : List Sp} (h : OwnP w b (.slice (some ⟨g, 0, none⟩) n c) l) (hn : n = l.length) (j : Nat) (hj : j < l.length) (x y : Int) :
    OwnP ((w.setCell ⟨g, j * 2, none⟩ (.int .i64 x)).setCell ⟨g, j * 2 + 1, none⟩ (.int .i64 y)) b (.slice (some ⟨g, 0, none⟩) n c) (l.set j (x, y)) ∧ w.grownBy ((w.setCell ⟨g, j * 2, none⟩ (.int .i64 x)).setCell ⟨g, j * 2 + 1, none⟩ (.int .i64 y)) (some g) := by
  obtain ⟨a1, a2⟩ := h.set0 hn j hj x
  obtain ⟨b1, b2⟩ := a1.set1 (by simpa using hn) j (by simpa using hj) y
  refine ⟨?_, grown_trans a2 b2⟩
  have e : (l.set j (x, (l.getD j sp0).2)).set j (((l.set j (x, (l.getD j sp0).2)).getD j sp0).1, y) = l.set j (x, y) := by
    rw [List.set_set, List.getD_eq_getElem?_getD, List.getElem?_set_self hj]; rfl
  rwa [e] at b1
theorem infoP : (Tryd.prog.info? 62).map (fun i => (i.zero, i.size, i.bytes)) = some (some (.agg #[.int .i64 0, .int .i64 0]), 2, 16) := by kernel_rfl
/-- append(out, s) where out is a row of the call's own -/
theorem wpList_appP {ops : Array Oper} {rest : List Oper} {o : Oper} {a : Act} {Q : Exit → Act → World → Prop} (hgd : o.guard = none) (s x : Operand)
    (ho : o.op = .call { callee := .builtin .append, args := #[s, x], argTypes := #[30, 30] }) (wr : World) (base : Nat) (v : Value) (l : List Sp) (y z : Int)
    (hs : a.eval s = v) (hown : OwnP wr base v l) (g : Nat) (hg : g = wr.heap.size) (hx : a.eval x = .slice (some ⟨g, 0, none⟩) 1 1) (hlen : l.length ≤ 10000000) (hbase : base ≤ wr.heap.size)
    (h : ∀ v' w', OwnP w' base v' (l ++ [(y, z)]) → wr.grownBy w' v.ownBlock → wpList Tryd.prog ops Q rest (a.put o.dst v') w') :
    wpList Tryd.prog ops Q (o :: rest) a (wr.alloc (.cells #[.int .i64 y, .int .i64 z] 62)) := by
  subst hg
  obtain ⟨i0, hi, hz0, hz1, hz2⟩ := info_parts infoP
  refine wpList_append_own _ hgd s x 30 ho base 62 i0 (.agg #[.int .i64 0, .int .i64 0]) 2 16 Tryd.underlying30 hi hz0 hz1 hz2 rfl (by decide) v l.length (flatP l) hs (World.ownsRow.alloc hown _)
    ⟨wr.heap.size, 0, none⟩ 1 1 [.int .i64 y, .int .i64 z] hx rfl ?_ ?_ ?_ ?_ ?_ ?_
  · intro j u hu
    match j, hu with
    | 0, hu => simp at hu; subst hu; exact (Blk.new wr _ _).c0
    | 1, hu => simp at hu; subst hu; exact (Blk.new wr _ _).c1
    | j + 2, hu => simp at hu
  · intro u hu
    simp only [List.mem_cons, List.not_mem_nil, or_false] at hu
    rcases hu with rfl | rfl <;> rfl
  · unfold maxLen; omega
  · omega
  · simp; omega
  · intro v' w' hown' hgr _
    exact h v' w' (OwnP.snoc (s := (y, z)) hown') (grown_trans (World.grownBy_alloc wr _ _) hgr)
/-- the empty literal -/
theorem OwnP.lit0 (w : World) : OwnP (w.alloc (.cells #[] 62)) w.heap.size (.slice (some ⟨w.heap.size, 0, none⟩) 0 0) [] := World.ownsRow_lit w #[] 0 (Nat.le_refl _) (by unfold maxLen; omega) rfl
theorem OwnP.below_grown {B : Nat} {a w w' : World} {v : Value} {l : List Sp} (hv : OwnP w B v l) (h : Below B a w) (hg : w.grownBy w' v.ownBlock) (hB : B ≤ w.heap.size) : Below B a w' :=
  h.grown hg hB fun k hk => (hv.lt k hk).1
theorem OwnP.blk {w w' : World} {B g : Nat} {t : TypeId} {cs : Array Value} {v : Value} {l : List Sp} (hv : OwnP w B v l) (hb : Blk w g t cs) (hg : w.grownBy w' v.ownBlock) (ht : 62 ≠ t) : Blk w' g t cs :=
  hb.grown hg (fun e => own_blk_ne hv hb ht e.symm)
theorem own_neP {w1 w2 : World} {b B : Nat} {v0 v1 : Value} {l m : List Sp} (h0 : OwnP w1 b v0 l) (h1 : OwnP w2 B v1 m) (hB : w1.heap.size ≤ B) : v0.ownBlock = none ∨ v0.ownBlock ≠ v1.ownBlock := by
  cases h : v0.ownBlock with
  | none => exact .inl rfl
  | some k =>
    refine .inr fun e => ?_
    have a := (h0.lt k h).2
    have b := (h1.lt k e.symm).1
    omega
/-- the last span of a list -/
theorem last_get (r : List Sp) (t : Sp) : (t :: r).reverse.getD r.length sp0 = t := by
  rw [List.reverse_cons, List.getD_eq_getElem?_getD, List.getElem?_append_right (by simp)]; simp
theorem last_set (r : List Sp) (t x : Sp) : (t :: r).reverse.set r.length x = (x :: r).reverse := by
  rw [List.reverse_cons, List.reverse_cons, List.set_append_right _ _ (by simp)]; simp
end Go.Proofs.YtoadkljaiegnlaaDoor
