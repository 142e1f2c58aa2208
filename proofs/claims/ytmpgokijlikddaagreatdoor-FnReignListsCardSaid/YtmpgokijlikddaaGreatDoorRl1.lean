/- Texts put together: Slices SpanP PRow. No condition beyond those that stand in each. -/
import Derived.Test.YtmpgokijlikddaaGreatDoorGrow
import Derived.Deep.AppendLies
import Derived.Deep.Onto
import Derived.OwnWalk
import Derived.Test.YtmpgokijlikddaaGreatDoorMath
/- Slices of int64 that a call has made: read, compared, marked. Conditions: that the slice owns its row of cells. -/
namespace Go.Proofs.YtmpgokijlikddaaGreatDoor
open Go.RowKit
/-- the slice value v owns the cells xs, in a block from base on -/
def OwnI (w : World) (base : Nat) (v : Value) (xs : List Int) : Prop := w.ownsRow base 2 1 v xs.length (xs.map (Value.int .i64))
theorem OwnI.nil (w : World) (base : Nat) : OwnI w base (.slice none 0 0) [] := World.ownsRow_nil w base _ 1
theorem OwnI.mono {w : World} {b b' : Nat} {v : Value} {xs : List Int} (h : OwnI w b v xs) (hb : b' ≤ b) : OwnI w b' v xs := World.ownsRow.mono h hb
theorem OwnI.lt {w : World} {b : Nat} {v : Value} {xs : List Int} (h : OwnI w b v xs) : ∀ k, v.ownBlock = some k → b ≤ k ∧ k < w.heap.size := World.ownsRow.lt h
theorem OwnI.kept {w w' : World} {b : Nat} {v : Value} {xs : List Int} {row : Option Nat} (h : OwnI w b v xs) (hg : w.grownBy w' row) (hne : v.ownBlock = none ∨ v.ownBlock ≠ row) : OwnI w' b v xs := World.ownsRow.kept h hg hne
theorem OwnI.below {w w' : World} {b : Nat} {v : Value} {xs : List Int} (h : OwnI w b v xs) (hb : Below w.heap.size w w') : OwnI w' b v xs :=
  h.kept (grown_of_below hb none) (by cases hv : v.ownBlock <;> simp)
theorem OwnI.drewN {w : World} {b : Nat} {v : Value} {xs : List Int} (h : OwnI w b v xs) (n : Nat) : OwnI (w.drewN n) b v xs := h
theorem OwnI.alloc {w : World} {b : Nat} {v : Value} {xs : List Int} (h : OwnI w b v xs) (o : Obj) : OwnI (w.alloc o) b v xs := World.ownsRow.alloc h o
theorem OwnI.opened {w : World} {b : Nat} {v : Value} {xs : List Int} (h : OwnI w b v xs) :
    xs.length ≤ 9223372036854775807 ∧ ∃ A c, v = .slice A xs.length c ∧ (0 < xs.length → ∃ g, A = some ⟨g, 0, none⟩ ∧ b ≤ g ∧ g < w.heap.size ∧
      (∀ j, j < xs.length → w.cell? ⟨g, j, none⟩ = some (.int .i64 (xs[j]!))) ∧ (∀ j, w.frozen? ⟨g, j, none⟩ = false)) := by
  rcases h.2 with ⟨rfl, hn⟩ | ⟨g, cap, cur, rfl, hbase, hblk, hnc, hcm, hsz, htk⟩
  · exact ⟨by omega, none, 0, by rw [hn], fun hp => absurd hp (by omega)⟩
  · refine ⟨by unfold maxLen at hcm; omega, _, cap, rfl, fun hp => ⟨g, rfl, hbase, ?_, ?_, ?_⟩⟩
    · exact (World.ownsRow.lt h g rfl).2
    · intro j hj
      have := World.ownsRow.cellAt (n := xs.length) (size := 1) h j (by omega)
      rw [this, List.getElem?_map, List.getElem?_eq_getElem hj]
      simp [hj]
    · exact fun j => World.ownsRow.frozenAt h j
theorem infoI : (Tryz.prog.info? 2).map (fun i => (i.zero, i.size, i.bytes)) = some (some (.int .i64 0), 1, 8) := by kernel_rfl
theorem OwnI.snoc {w : World} {b : Nat} {v : Value} {xs : List Int} {y : Int} (h : w.ownsRow b 2 1 v (xs.length + 1) (xs.map (Value.int .i64) ++ [.int .i64 y])) : OwnI w b v (xs ++ [y]) := by
  unfold OwnI; rw [List.length_append, List.map_append]; exact h
/-- append(out, y) where out is a row of the call's own. -/
theorem wpList_appI {ops : Array Oper} {rest : List Oper} {o : Oper} {a : Act} {Q : Exit → Act → World → Prop} (hgd : o.guard = none) (s x : Operand)
    (ho : o.op = .call { callee := .builtin .append, args := #[s, x], argTypes := #[33, 33] }) (wr : World) (base : Nat) (v : Value) (xs : List Int) (y : Int)
    (hs : a.eval s = v) (hown : OwnI wr base v xs) (hx : a.eval x = .slice (some ⟨wr.heap.size, 0, none⟩) 1 1) (hlen : xs.length ≤ 10000000) (hbase : base ≤ wr.heap.size)
    (h : ∀ v' w', OwnI w' base v' (xs ++ [y]) → wr.grownBy w' v.ownBlock → wpList Tryz.prog ops Q rest (a.put o.dst v') w') :
    wpList Tryz.prog ops Q (o :: rest) a (wr.alloc (.cells #[.int .i64 y] 2)) := by
  obtain ⟨i0, hi, hz0, hz1, hz2⟩ := info_parts infoI
  refine wpList_append_own _ hgd s x 33 ho base 2 i0 (.int .i64 0) 1 8 Tryz.underlying33 hi hz0 hz1 hz2 rfl (by decide) v xs.length (xs.map (Value.int .i64)) hs (World.ownsRow.alloc hown _)
    ⟨wr.heap.size, 0, none⟩ 1 1 [.int .i64 y] hx rfl ?_ ?_ ?_ ?_ ?_ ?_
  · intro j u hu
    cases j with
    | zero => simp at hu; subst hu; exact (Blk.new wr _ _).c0
    | succ j => simp at hu
  · intro u hu; simp at hu; subst hu; rfl
  · unfold maxLen; omega
  · omega
  · simp; omega
  · intro v' w' hown' hgr _
    exact h v' w' (OwnI.snoc hown') (grown_trans (World.grownBy_alloc wr _ _) hgr)
/-- .. the new cell's block told by its number -/
theorem wpList_appI' {ops : Array Oper} {rest : List Oper} {o : Oper} {a : Act} {Q : Exit → Act → World → Prop} (hgd : o.guard = none) (s x : Operand)
    (ho : o.op = .call { callee := .builtin .append, args := #[s, x], argTypes := #[33, 33] }) (wr : World) (base : Nat) (v : Value) (xs : List Int) (y : Int)
    (hs : a.eval s = v) (hown : OwnI wr base v xs) (g : Nat) (hg : g = wr.heap.size) (hx : a.eval x = .slice (some ⟨g, 0, none⟩) 1 1) (hlen : xs.length ≤ 10000000) (hbase : base ≤ wr.heap.size)
    (h : ∀ v' w', OwnI w' base v' (xs ++ [y]) → wr.grownBy w' v.ownBlock → wpList Tryz.prog ops Q rest (a.put o.dst v') w') :
    wpList Tryz.prog ops Q (o :: rest) a (wr.alloc (.cells #[.int .i64 y] 2)) := by
  subst hg
  exact wpList_appI hgd s x ho wr base v xs y hs hown hx hlen hbase h
/-- the empty literal -/
theorem OwnI.lit0 (w : World) : OwnI (w.alloc (.cells #[] 2)) w.heap.size (.slice (some ⟨w.heap.size, 0, none⟩) 0 0) [] := World.ownsRow_lit w #[] 0 (Nat.le_refl _) (by unfold maxLen; omega) rfl
theorem own_ne {w1 w2 : World} {b B : Nat} {v0 v1 : Value} {xs ys : List Int} (h0 : OwnI w1 b v0 xs) (h1 : OwnI w2 B v1 ys) (hB : w1.heap.size ≤ B) : v0.ownBlock = none ∨ v0.ownBlock ≠ v1.ownBlock := by
  cases h : v0.ownBlock with
  | none => exact .inl rfl
  | some k =>
    refine .inr fun e => ?_
    have a := (h0.lt k h).2
    have b := (h1.lt k e.symm).1
    omega
theorem OwnI.below_grown {B : Nat} {a w w' : World} {v : Value} {xs : List Int} (hv : OwnI w B v xs) (h : Below B a w) (hg : w.grownBy w' v.ownBlock) (hB : B ≤ w.heap.size) : Below B a w' :=
  h.grown hg hB fun k hk => (hv.lt k hk).1
theorem OwnI.blk {w w' : World} {B g : Nat} {t : TypeId} {cs : Array Value} {v : Value} {xs : List Int} (hv : OwnI w B v xs) (hb : Blk w g t cs) (hg : w.grownBy w' v.ownBlock) (ht : 2 ≠ t) : Blk w' g t cs :=
  hb.grown hg (fun e => own_blk_ne hv hb ht e.symm)
theorem below_grown {a w w' : World} {b : Nat} {v : Value} {xs : List Int} (h : Below a.heap.size a w) (hg : w.grownBy w' v.ownBlock) (hv : OwnI w b v xs) (hb : a.heap.size ≤ b) : Below a.heap.size a w' :=
  h.grown hg h.size fun k hk => Nat.le_trans hb (hv.lt k hk).1
end Go.Proofs.YtmpgokijlikddaaGreatDoor
/- Lists of spans, plainly: a list whose spans lie apart is told by its days; spans in order of their begin are joined to such a list. No condition. -/
namespace Go.Proofs.YtmpgokijlikddaaGreatDoor
abbrev Sp := Int × Int
def cov (l : List Sp) (n : Int) : Prop := ∃ s ∈ l, s.1 ≤ n ∧ n ≤ s.2
def norm : List Sp → Prop
  | [] => True
  | s :: l => s.1 ≤ s.2 ∧ (∀ t ∈ l, s.2 + 2 ≤ t.1) ∧ norm l
theorem norm_le : ∀ {l : List Sp}, norm l → ∀ t ∈ l, t.1 ≤ t.2
  | [], _, _, h => absurd h List.not_mem_nil
  | s :: l, hn, t, h => by
    rcases List.mem_cons.1 h with rfl | h
    · exact hn.1
    · exact norm_le hn.2.2 t h
theorem cov_cons {s : Sp} {l : List Sp} {n : Int} : cov (s :: l) n ↔ (s.1 ≤ n ∧ n ≤ s.2) ∨ cov l n := by
  unfold cov; simp
theorem cov_nil {n : Int} : ¬ cov [] n := by unfold cov; simp
theorem cov_app {l m : List Sp} {n : Int} : cov (l ++ m) n ↔ cov l n ∨ cov m n := by
  unfold cov
  constructor
  · rintro ⟨s, hs, h⟩
    rcases List.mem_append.1 hs with hs | hs
    · exact .inl ⟨s, hs, h⟩
    · exact .inr ⟨s, hs, h⟩
  · rintro (⟨s, hs, h⟩ | ⟨s, hs, h⟩)
    · exact ⟨s, List.mem_append_left _ hs, h⟩
    · exact ⟨s, List.mem_append_right _ hs, h⟩
theorem cov_mem {l m : List Sp} (h : ∀ s, s ∈ l ↔ s ∈ m) (n : Int) : cov l n ↔ cov m n := by
  unfold cov
  constructor
  · rintro ⟨s, hs, h'⟩; exact ⟨s, (h s).1 hs, h'⟩
  · rintro ⟨s, hs, h'⟩; exact ⟨s, (h s).2 hs, h'⟩
theorem cov_after {s : Sp} {l : List Sp} (hl : ∀ t ∈ l, s.2 + 2 ≤ t.1) {n : Int} (h : cov l n) : s.2 + 2 ≤ n := by
  obtain ⟨t, ht, h1, _⟩ := h
  have := hl t ht
  omega
theorem norm_head_le {s t : Sp} {l m : List Sp} (hl : norm (s :: l)) (hm : norm (t :: m)) (h : ∀ n, cov (s :: l) n ↔ cov (t :: m) n) : t.1 ≤ s.1 := by
  have c := (h s.1).1 (cov_cons.2 (.inl ⟨by omega, hl.1⟩))
  rcases cov_cons.1 c with ⟨c, _⟩ | c
  · exact c
  · have := cov_after hm.2.1 c
    have := hm.1
    omega
theorem norm_head_ge {s t : Sp} {l m : List Sp} (hl : norm (s :: l)) (h : ∀ n, cov (s :: l) n ↔ cov (t :: m) n) (e : s.1 = t.1) : t.2 ≤ s.2 := by
  by_cases hlt : s.2 < t.2
  · have c := (h (s.2 + 1)).2 (cov_cons.2 (.inl ⟨by have := hl.1; omega, by omega⟩))
    rcases cov_cons.1 c with ⟨_, c⟩ | c
    · omega
    · have := cov_after hl.2.1 c
      omega
  · omega
theorem norm_uniq : ∀ (l m : List Sp), norm l → norm m → (∀ n, cov l n ↔ cov m n) → l = m
  | [], [], _, _, _ => rfl
  | [], t :: m, _, hm, h => absurd ((h t.1).2 (cov_cons.2 (.inl ⟨by omega, hm.1⟩))) cov_nil
  | s :: l, [], hl, _, h => absurd ((h s.1).1 (cov_cons.2 (.inl ⟨by omega, hl.1⟩))) cov_nil
  | s :: l, t :: m, hl, hm, h => by
    have h' := fun n => (h n).symm
    have a1 := norm_head_le hl hm h
    have a2 := norm_head_le hm hl h'
    have e1 : s.1 = t.1 := by omega
    have b1 := norm_head_ge hl h e1
    have b2 := norm_head_ge hm h' e1.symm
    have e2 : s.2 = t.2 := by omega
    have e : s = t := Prod.ext e1 e2
    subst e
    have : l = m := norm_uniq l m hl.2.2 hm.2.2 fun n => by
      constructor
      · intro c
        have hc := cov_after hl.2.1 c
        rcases cov_cons.1 ((h n).1 (cov_cons.2 (.inr c))) with ⟨_, d⟩ | d
        · omega
        · exact d
      · intro c
        have hc := cov_after hm.2.1 c
        rcases cov_cons.1 ((h n).2 (cov_cons.2 (.inr c))) with ⟨_, d⟩ | d
        · omega
        · exact d
    rw [this]
/-- one span more, the list being told from its end -/
def mst : List Sp → Sp → List Sp
  | [], s => [s]
  | t :: r, s => if s.1 ≤ t.2 + 1 then (t.1, max t.2 s.2) :: r else s :: t :: r
theorem mst_yes {t s : Sp} {r : List Sp} (h : s.1 ≤ t.2 + 1) : mst (t :: r) s = (t.1, max t.2 s.2) :: r := by simp only [mst, if_pos h]
theorem mst_no {t s : Sp} {r : List Sp} (h : ¬ s.1 ≤ t.2 + 1) : mst (t :: r) s = s :: t :: r := by simp only [mst, if_neg h]
def rnorm : List Sp → Prop
  | [] => True
  | s :: l => s.1 ≤ s.2 ∧ (∀ t ∈ l, t.2 + 2 ≤ s.1) ∧ rnorm l
theorem norm_snoc : ∀ {l : List Sp} {s : Sp}, norm l → s.1 ≤ s.2 → (∀ t ∈ l, t.2 + 2 ≤ s.1) → norm (l ++ [s])
  | [], s, _, h, _ => ⟨h, by simp, trivial⟩
  | u :: l, s, hl, h, ha => by
    refine ⟨hl.1, ?_, norm_snoc hl.2.2 h fun t ht => ha t (List.mem_cons_of_mem _ ht)⟩
    intro t ht
    rcases List.mem_append.1 ht with ht | ht
    · exact hl.2.1 t ht
    · obtain rfl : t = s := by simpa using ht
      exact ha u (List.mem_cons_self ..)
theorem norm_rev : ∀ {l : List Sp}, rnorm l → norm l.reverse
  | [], _ => trivial
  | s :: l, h => by
    rw [List.reverse_cons]
    exact norm_snoc (norm_rev h.2.2) h.1 fun t ht => h.2.1 t (List.mem_reverse.1 ht)
theorem mst_ok {r : List Sp} {s : Sp} (hr : rnorm r) (hs : s.1 ≤ s.2) (ho : ∀ t ∈ r, t.1 ≤ s.1) :
    rnorm (mst r s) ∧ (∀ n, cov (mst r s) n ↔ cov r n ∨ (s.1 ≤ n ∧ n ≤ s.2)) ∧ (∀ u, s.1 ≤ u → ∀ t ∈ mst r s, t.1 ≤ u) := by
  cases r with
  | nil =>
    refine ⟨⟨hs, by simp, trivial⟩, fun n => ?_, ?_⟩
    · show cov [s] n ↔ _
      rw [cov_cons]; simp [cov_nil]
    · intro u hu t ht
      obtain rfl : t = s := by simpa [mst] using ht
      exact hu
  | cons t r =>
    have ht := ho t (List.mem_cons_self ..)
    by_cases h : s.1 ≤ t.2 + 1
    · rw [mst_yes h]
      refine ⟨⟨?_, ?_, hr.2.2⟩, fun n => ?_, ?_⟩
      · have := hr.1; show t.1 ≤ max t.2 s.2; omega
      · intro u hu; exact hr.2.1 u hu
      · rw [cov_cons, cov_cons]
        show (t.1 ≤ n ∧ n ≤ max t.2 s.2) ∨ cov r n ↔ _
        constructor
        · rintro (⟨c1, c2⟩ | c)
          · by_cases hn : n ≤ t.2
            · exact .inl (.inl ⟨c1, hn⟩)
            · exact .inr ⟨by omega, by omega⟩
          · exact .inl (.inr c)
        · rintro ((⟨c1, c2⟩ | c) | ⟨c1, c2⟩)
          · exact .inl ⟨c1, by omega⟩
          · exact .inr c
          · exact .inl ⟨by omega, by omega⟩
      · intro u hu v hv
        rcases List.mem_cons.1 hv with rfl | hv
        · show t.1 ≤ u; omega
        · have := ho v (List.mem_cons_of_mem _ hv); omega
    · rw [mst_no h]
      refine ⟨⟨hs, ?_, hr⟩, fun n => ?_, ?_⟩
      · intro u hu
        rcases List.mem_cons.1 hu with rfl | hu
        · omega
        · have := hr.2.1 u hu
          have := hr.1
          omega
      · rw [cov_cons]; constructor
        · rintro (c | c)
          · exact .inr c
          · exact .inl c
        · rintro (c | c)
          · exact .inr c
          · exact .inl c
      · intro u hu v hv
        rcases List.mem_cons.1 hv with rfl | hv
        · exact hu
        · have := ho v hv; omega
def mrg (l : List Sp) : List Sp := (l.foldl mst []).reverse
theorem fold_ok : ∀ (l r : List Sp), rnorm r → (∀ s ∈ l, s.1 ≤ s.2) → l.Pairwise (fun a b => a.1 ≤ b.1) → (∀ s ∈ l, ∀ t ∈ r, t.1 ≤ s.1) →
    rnorm (l.foldl mst r) ∧ (∀ n, cov (l.foldl mst r) n ↔ cov r n ∨ cov l n)
  | [], r, hr, _, _, _ => ⟨hr, fun n => by simp [cov_nil]⟩
  | s :: l, r, hr, hs, hp, ho => by
    rw [List.pairwise_cons] at hp
    obtain ⟨a, b, c⟩ := mst_ok hr (hs s (List.mem_cons_self ..)) (ho s (List.mem_cons_self ..))
    obtain ⟨d, e⟩ := fold_ok l (mst r s) a (fun u hu => hs u (List.mem_cons_of_mem _ hu)) hp.2 (fun u hu t ht => c u.1 (hp.1 u hu) t ht)
    refine ⟨d, fun n => ?_⟩
    rw [List.foldl_cons, e n, b n, cov_cons, or_assoc]
theorem mrg_ok {l : List Sp} (hs : ∀ s ∈ l, s.1 ≤ s.2) (hp : l.Pairwise (fun a b => a.1 ≤ b.1)) : norm (mrg l) ∧ ∀ n, cov (mrg l) n ↔ cov l n := by
  obtain ⟨a, b⟩ := fold_ok l [] trivial hs hp (fun _ _ t ht => absurd ht List.not_mem_nil)
  refine ⟨norm_rev a, fun n => ?_⟩
  unfold mrg
  rw [cov_mem (fun s => List.mem_reverse) n, b n]
  simp [cov_nil]
/-- a span laid among others, behind those that begin as early -/
def ins (s : Sp) : List Sp → List Sp
  | [] => [s]
  | t :: l => if t.1 ≤ s.1 then t :: ins s l else s :: t :: l
def isort (l : List Sp) : List Sp := l.foldl (fun r s => ins s r) []
theorem ins_mem (s : Sp) : ∀ (l : List Sp) (u : Sp), u ∈ ins s l ↔ u = s ∨ u ∈ l
  | [], u => by simp [ins]
  | t :: l, u => by
    unfold ins
    split
    · rw [List.mem_cons, ins_mem s l u, List.mem_cons]
      constructor
      · rintro (h | h | h)
        · exact .inr (.inl h)
        · exact .inl h
        · exact .inr (.inr h)
      · rintro (h | h | h)
        · exact .inr (.inl h)
        · exact .inl h
        · exact .inr (.inr h)
    · simp
theorem ins_pw (s : Sp) : ∀ (l : List Sp), l.Pairwise (fun a b => a.1 ≤ b.1) → (ins s l).Pairwise (fun a b => a.1 ≤ b.1)
  | [], _ => by simp [ins]
  | t :: l, h => by
    rw [List.pairwise_cons] at h
    unfold ins
    split
    · rename_i hle
      rw [List.pairwise_cons]
      refine ⟨fun u hu => ?_, ins_pw s l h.2⟩
      rcases (ins_mem s l u).1 hu with rfl | hu
      · exact hle
      · exact h.1 u hu
    · rename_i hgt
      rw [List.pairwise_cons]
      refine ⟨fun u hu => ?_, List.pairwise_cons.2 h⟩
      rcases List.mem_cons.1 hu with rfl | hu
      · omega
      · have := h.1 u hu; omega
theorem isort_ok : ∀ (l r : List Sp), r.Pairwise (fun a b => a.1 ≤ b.1) → (l.foldl (fun r s => ins s r) r).Pairwise (fun a b => a.1 ≤ b.1) ∧ ∀ u, u ∈ l.foldl (fun r s => ins s r) r ↔ u ∈ r ∨ u ∈ l
  | [], r, h => ⟨h, fun u => by simp⟩
  | s :: l, r, h => by
    obtain ⟨a, b⟩ := isort_ok l (ins s r) (ins_pw s r h)
    refine ⟨a, fun u => ?_⟩
    rw [List.foldl_cons, b u, ins_mem, List.mem_cons]
    constructor
    · rintro ((h | h) | h)
      · exact .inr (.inl h)
      · exact .inl h
      · exact .inr (.inr h)
    · rintro (h | h | h)
      · exact .inl (.inr h)
      · exact .inl (.inl h)
      · exact .inr h
/-- the set of all days of spans -/
def uni (l : List Sp) : List Sp := mrg (isort l)
theorem uni_ok {l : List Sp} (hs : ∀ s ∈ l, s.1 ≤ s.2) : norm (uni l) ∧ ∀ n, cov (uni l) n ↔ cov l n := by
  obtain ⟨a, b⟩ := isort_ok l [] List.Pairwise.nil
  have b' : ∀ u, u ∈ isort l ↔ u ∈ l := fun u => by unfold isort; rw [b u]; simp
  obtain ⟨c, d⟩ := mrg_ok (l := isort l) (fun s h => hs s ((b' s).1 h)) a
  exact ⟨c, fun n => (d n).trans (cov_mem b' n)⟩
/-- however the spans are put in order -/
theorem mrg_uni {l m : List Sp} (hs : ∀ s ∈ l, s.1 ≤ s.2) (hm : ∀ s, s ∈ m ↔ s ∈ l) (hp : m.Pairwise (fun a b => a.1 ≤ b.1)) : mrg m = uni l := by
  obtain ⟨a, b⟩ := mrg_ok (l := m) (fun s h => hs s ((hm s).1 h)) hp
  obtain ⟨c, d⟩ := uni_ok hs
  exact norm_uniq _ _ a c fun n => (b n).trans ((cov_mem hm n).trans (d n).symm)
end Go.Proofs.YtmpgokijlikddaaGreatDoor
/- Slices of spans that a call has made: how they lie, how one more is put behind. Conditions: that the slice owns its row of cells. -/
namespace Go.Proofs.YtmpgokijlikddaaGreatDoor
open Go.RowKit
abbrev sp0 : Sp := (0, 0)
/-- the cells of a list of spans -/
def flatP : List Sp → List Value
  | [] => []
  | s :: l => .int .i64 s.1 :: .int .i64 s.2 :: flatP l
theorem flatP_len : ∀ l : List Sp, (flatP l).length = l.length * 2
  | [] => rfl
  | s :: l => by simp only [flatP, List.length_cons, flatP_len l]; omega
theorem flatP_0 : ∀ (l : List Sp) (j : Nat), j < l.length → (flatP l)[j * 2]? = some (.int .i64 (l.getD j sp0).1)
  | [], j, h => absurd h (Nat.not_lt_zero _)
  | s :: l, 0, _ => rfl
  | s :: l, j + 1, h => by
    have := flatP_0 l j (by simpa using h)
    rw [show (j + 1) * 2 = j * 2 + 1 + 1 from by omega]
    simpa [flatP] using this
theorem flatP_1 : ∀ (l : List Sp) (j : Nat), j < l.length → (flatP l)[j * 2 + 1]? = some (.int .i64 (l.getD j sp0).2)
  | [], j, h => absurd h (Nat.not_lt_zero _)
  | s :: l, 0, _ => rfl
  | s :: l, j + 1, h => by
    have := flatP_1 l j (by simpa using h)
    rw [show (j + 1) * 2 + 1 = j * 2 + 1 + 1 + 1 from by omega]
    simpa [flatP] using this
theorem flatP_app : ∀ (l m : List Sp), flatP (l ++ m) = flatP l ++ flatP m
  | [], m => rfl
  | s :: l, m => by simp [flatP, flatP_app l m]
theorem flatP_set0 : ∀ (l : List Sp) (j : Nat) (x : Int), j < l.length → (flatP l).set (j * 2) (.int .i64 x) = flatP (l.set j (x, (l.getD j sp0).2))
  | [], j, x, h => absurd h (Nat.not_lt_zero _)
  | s :: l, 0, x, _ => rfl
  | s :: l, j + 1, x, h => by
    have := flatP_set0 l j x (by simpa using h)
    rw [show (j + 1) * 2 = j * 2 + 1 + 1 from by omega]
    simp only [flatP, List.set_cons_succ, this]
    simp
theorem flatP_set1 : ∀ (l : List Sp) (j : Nat) (x : Int), j < l.length → (flatP l).set (j * 2 + 1) (.int .i64 x) = flatP (l.set j ((l.getD j sp0).1, x))
  | [], j, x, h => absurd h (Nat.not_lt_zero _)
  | s :: l, 0, x, _ => rfl
  | s :: l, j + 1, x, h => by
    have := flatP_set1 l j x (by simpa using h)
    rw [show (j + 1) * 2 + 1 = j * 2 + 1 + 1 + 1 from by omega]
    simp only [flatP, List.set_cons_succ, this]
    simp
theorem flatP_one : ∀ (l : List Sp) (u : Value), u ∈ flatP l → u.oneCell' = true
  | [], u, h => by simp [flatP] at h
  | s :: l, u, h => by
    simp only [flatP, List.mem_cons] at h
    rcases h with rfl | rfl | h
    · rfl
    · rfl
    · exact flatP_one l u h
/-- the slice value v owns the spans l, in a block from base on -/
def OwnP (w : World) (base : Nat) (v : Value) (l : List Sp) : Prop := w.ownsRow base 47 2 v l.length (flatP l)
theorem OwnP.nil (w : World) (base : Nat) : OwnP w base (.slice none 0 0) [] := World.ownsRow_nil w base _ 2
theorem OwnP.mono {w : World} {b b' : Nat} {v : Value} {l : List Sp} (h : OwnP w b v l) (hb : b' ≤ b) : OwnP w b' v l := World.ownsRow.mono h hb
theorem OwnP.lt {w : World} {b : Nat} {v : Value} {l : List Sp} (h : OwnP w b v l) : ∀ k, v.ownBlock = some k → b ≤ k ∧ k < w.heap.size := World.ownsRow.lt h
theorem OwnP.kept {w w' : World} {b : Nat} {v : Value} {l : List Sp} {row : Option Nat} (h : OwnP w b v l) (hg : w.grownBy w' row) (hne : v.ownBlock = none ∨ v.ownBlock ≠ row) : OwnP w' b v l := World.ownsRow.kept h hg hne
theorem OwnP.below {w w' : World} {b : Nat} {v : Value} {l : List Sp} (h : OwnP w b v l) (hb : Below w.heap.size w w') : OwnP w' b v l :=
  h.kept (grown_of_below hb none) (by cases hv : v.ownBlock <;> simp)
theorem OwnP.drewN {w : World} {b : Nat} {v : Value} {l : List Sp} (h : OwnP w b v l) (n : Nat) : OwnP (w.drewN n) b v l := h
theorem OwnP.drew {w : World} {b : Nat} {v : Value} {l : List Sp} (h : OwnP w b v l) : OwnP w.drew b v l := h
theorem OwnP.alloc {w : World} {b : Nat} {v : Value} {l : List Sp} (h : OwnP w b v l) (o : Obj) : OwnP (w.alloc o) b v l := World.ownsRow.alloc h o
theorem OwnP.opened {w : World} {b : Nat} {v : Value} {l : List Sp} (h : OwnP w b v l) :
    l.length ≤ 9223372036854775807 ∧ ∃ A c, v = .slice A l.length c ∧ (0 < l.length → ∃ g, A = some ⟨g, 0, none⟩ ∧ b ≤ g ∧ g < w.heap.size ∧
      (∀ j, j < l.length → w.cell? ⟨g, j * 2, none⟩ = some (.int .i64 (l.getD j sp0).1) ∧ w.cell? ⟨g, j * 2 + 1, none⟩ = some (.int .i64 (l.getD j sp0).2)) ∧ (∀ j, w.frozen? ⟨g, j, none⟩ = false)) := by
  rcases h.2 with ⟨rfl, hn⟩ | ⟨g, cap, cur, rfl, hbase, hblk, hnc, hcm, hsz, htk⟩
  · exact ⟨by omega, none, 0, by rw [hn], fun hp => absurd hp (by omega)⟩
  · refine ⟨by unfold maxLen at hcm; omega, _, cap, rfl, fun hp => ⟨g, rfl, hbase, ?_, ?_, ?_⟩⟩
    · exact (World.ownsRow.lt h g rfl).2
    · intro j hj
      have h0 := World.ownsRow.cellAt (n := l.length) (size := 2) h (j * 2) (by omega)
      have h1 := World.ownsRow.cellAt (n := l.length) (size := 2) h (j * 2 + 1) (by omega)
      exact ⟨h0.trans (flatP_0 l j hj), h1.trans (flatP_1 l j hj)⟩
    · exact fun j => World.ownsRow.frozenAt h j
theorem OwnP.at_ {w : World} {b n c : Nat} {A : Option Addr} {l : List Sp} (h : OwnP w b (.slice A n c) l) : n = l.length ∧ (0 < l.length → ∃ g, A = some ⟨g, 0, none⟩ ∧ b ≤ g ∧ g < w.heap.size ∧
      (∀ j, j < l.length → w.cell? ⟨g, j * 2, none⟩ = some (.int .i64 (l.getD j sp0).1) ∧ w.cell? ⟨g, j * 2 + 1, none⟩ = some (.int .i64 (l.getD j sp0).2)) ∧ (∀ j, w.frozen? ⟨g, j, none⟩ = false)) := by
  obtain ⟨_, A', c', e, P⟩ := h.opened
  injection e with e1 e2 e3
  subst e1
  exact ⟨e2, P⟩
theorem OwnP.atg {w : World} {b n c g : Nat} {l : List Sp} (h : OwnP w b (.slice (some ⟨g, 0, none⟩) n c) l) (hl : 0 < l.length) : n = l.length ∧ b ≤ g ∧ g < w.heap.size ∧
      (∀ j, j < l.length → w.cell? ⟨g, j * 2, none⟩ = some (.int .i64 (l.getD j sp0).1) ∧ w.cell? ⟨g, j * 2 + 1, none⟩ = some (.int .i64 (l.getD j sp0).2)) ∧ (∀ j, w.frozen? ⟨g, j, none⟩ = false) := by
  obtain ⟨e, P⟩ := h.at_
  obtain ⟨g', hg, P'⟩ := P hl
  injection hg with hg
  injection hg with hg
  subst hg
  exact ⟨e, P'⟩
theorem OwnP.snoc {w : World} {b : Nat} {v : Value} {l : List Sp} {s : Sp} (h : w.ownsRow b 47 2 v (l.length + 1) (flatP l ++ [.int .i64 s.1, .int .i64 s.2])) : OwnP w b v (l ++ [s]) := by
  unfold OwnP; rw [List.length_append, flatP_app]; exact h
theorem OwnP.set0 {w : World} {b g c n : Nat} {l : List Sp} (h : OwnP w b (.slice (some ⟨g, 0, none⟩) n c) l) (hn : n = l.length) (j : Nat) (hj : j < l.length) (x : Int) :
    OwnP (w.setCell ⟨g, j * 2, none⟩ (.int .i64 x)) b (.slice (some ⟨g, 0, none⟩) n c) (l.set j (x, (l.getD j sp0).2)) ∧ w.grownBy (w.setCell ⟨g, j * 2, none⟩ (.int .i64 x)) (some g) := by
  subst hn
  obtain ⟨a, k⟩ := World.ownsRow.stored h (j * 2) (.int .i64 x)
  refine ⟨?_, k⟩
  unfold OwnP
  rw [List.length_set, ← flatP_set0 l j x hj]
  exact a
theorem OwnP.set1 {w : World} {b g c n : Nat} {l : List Sp} (h : OwnP w b (.slice (some ⟨g, 0, none⟩) n c) l) (hn : n = l.length) (j : Nat) (hj : j < l.length) (x : Int) :
    OwnP (w.setCell ⟨g, j * 2 + 1, none⟩ (.int .i64 x)) b (.slice (some ⟨g, 0, none⟩) n c) (l.set j ((l.getD j sp0).1, x)) ∧ w.grownBy (w.setCell ⟨g, j * 2 + 1, none⟩ (.int .i64 x)) (some g) := by
  subst hn
  obtain ⟨a, k⟩ := World.ownsRow.stored h (j * 2 + 1) (.int .i64 x)
  refine ⟨?_, k⟩
  unfold OwnP
  rw [List.length_set, ← flatP_set1 l j x hj]
  exact a
theorem OwnP.setAt {w : World} {b g c n : Nat} {l : List Sp} (h : OwnP w b (.slice (some ⟨g, 0, none⟩) n c) l) (hn : n = l.length) (j : Nat) (hj : j < l.length) (x y : Int) :
    OwnP ((w.setCell ⟨g, j * 2, none⟩ (.int .i64 x)).setCell ⟨g, j * 2 + 1, none⟩ (.int .i64 y)) b (.slice (some ⟨g, 0, none⟩) n c) (l.set j (x, y)) ∧ w.grownBy ((w.setCell ⟨g, j * 2, none⟩ (.int .i64 x)).setCell ⟨g, j * 2 + 1, none⟩ (.int .i64 y)) (some g) := by
  obtain ⟨a1, a2⟩ := h.set0 hn j hj x
  obtain ⟨b1, b2⟩ := a1.set1 (by simpa using hn) j (by simpa using hj) y
  refine ⟨?_, grown_trans a2 b2⟩
  have e : (l.set j (x, (l.getD j sp0).2)).set j (((l.set j (x, (l.getD j sp0).2)).getD j sp0).1, y) = l.set j (x, y) := by
    rw [List.set_set, List.getD_eq_getElem?_getD, List.getElem?_set_self hj]; rfl
  rwa [e] at b1
theorem infoP : (Tryz.prog.info? 47).map (fun i => (i.zero, i.size, i.bytes)) = some (some (.agg #[.int .i64 0, .int .i64 0]), 2, 16) := by kernel_rfl
/-- append(out, s) where out is a row of the call's own -/
theorem wpList_appP {ops : Array Oper} {rest : List Oper} {o : Oper} {a : Act} {Q : Exit → Act → World → Prop} (hgd : o.guard = none) (s x : Operand)
    (ho : o.op = .call { callee := .builtin .append, args := #[s, x], argTypes := #[27, 27] }) (wr : World) (base : Nat) (v : Value) (l : List Sp) (y z : Int)
    (hs : a.eval s = v) (hown : OwnP wr base v l) (g : Nat) (hg : g = wr.heap.size) (hx : a.eval x = .slice (some ⟨g, 0, none⟩) 1 1) (hlen : l.length ≤ 10000000) (hbase : base ≤ wr.heap.size)
    (h : ∀ v' w', OwnP w' base v' (l ++ [(y, z)]) → wr.grownBy w' v.ownBlock → wpList Tryz.prog ops Q rest (a.put o.dst v') w') :
    wpList Tryz.prog ops Q (o :: rest) a (wr.alloc (.cells #[.int .i64 y, .int .i64 z] 47)) := by
  subst hg
  obtain ⟨i0, hi, hz0, hz1, hz2⟩ := info_parts infoP
  refine wpList_append_own _ hgd s x 27 ho base 47 i0 (.agg #[.int .i64 0, .int .i64 0]) 2 16 Tryz.underlying27 hi hz0 hz1 hz2 rfl (by decide) v l.length (flatP l) hs (World.ownsRow.alloc hown _)
    ⟨wr.heap.size, 0, none⟩ 1 1 [.int .i64 y, .int .i64 z] hx rfl ?_ ?_ ?_ ?_ ?_ ?_
  · intro j u hu
    match j, hu with
    | 0, hu => simp at hu; subst hu; exact (Blk.new wr _ _).c0
    | 1, hu => simp at hu; subst hu; exact (Blk.new wr _ _).c1
    | j + 2, hu => simp at hu
  · intro u hu
    simp only [List.mem_cons, List.not_mem_nil, or_false] at hu
    rcases hu with rfl | rfl <;> rfl
  · unfold maxLen; omega
  · omega
  · simp; omega
  · intro v' w' hown' hgr _
    exact h v' w' (OwnP.snoc (s := (y, z)) hown') (grown_trans (World.grownBy_alloc wr _ _) hgr)
/-- the empty literal -/
theorem OwnP.lit0 (w : World) : OwnP (w.alloc (.cells #[] 47)) w.heap.size (.slice (some ⟨w.heap.size, 0, none⟩) 0 0) [] := World.ownsRow_lit w #[] 0 (Nat.le_refl _) (by unfold maxLen; omega) rfl
theorem OwnP.below_grown {B : Nat} {a w w' : World} {v : Value} {l : List Sp} (hv : OwnP w B v l) (h : Below B a w) (hg : w.grownBy w' v.ownBlock) (hB : B ≤ w.heap.size) : Below B a w' :=
  h.grown hg hB fun k hk => (hv.lt k hk).1
theorem OwnP.blk {w w' : World} {B g : Nat} {t : TypeId} {cs : Array Value} {v : Value} {l : List Sp} (hv : OwnP w B v l) (hb : Blk w g t cs) (hg : w.grownBy w' v.ownBlock) (ht : 47 ≠ t) : Blk w' g t cs :=
  hb.grown hg (fun e => own_blk_ne hv hb ht e.symm)
theorem own_neP {w1 w2 : World} {b B : Nat} {v0 v1 : Value} {l m : List Sp} (h0 : OwnP w1 b v0 l) (h1 : OwnP w2 B v1 m) (hB : w1.heap.size ≤ B) : v0.ownBlock = none ∨ v0.ownBlock ≠ v1.ownBlock := by
  cases h : v0.ownBlock with
  | none => exact .inl rfl
  | some k =>
    refine .inr fun e => ?_
    have a := (h0.lt k h).2
    have b := (h1.lt k e.symm).1
    omega
/-- the last span of a list -/
theorem last_get (r : List Sp) (t : Sp) : (t :: r).reverse.getD r.length sp0 = t := by
  rw [List.reverse_cons, List.getD_eq_getElem?_getD, List.getElem?_append_right (by simp)]; simp
theorem last_set (r : List Sp) (t x : Sp) : (t :: r).reverse.set r.length x = (x :: r).reverse := by
  rw [List.reverse_cons, List.reverse_cons, List.set_append_right _ _ (by simp)]; simp
end Go.Proofs.YtmpgokijlikddaaGreatDoor
