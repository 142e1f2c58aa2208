/- Slices of int64 that a call has made: read, compared, marked. Conditions: that the slice owns its row of cells. -/
import Derived.Test.YtffpaedhdjnbjaaDoorBlk
import Derived.Deep.AppendLies
import Derived.Deep.Onto
import Derived.OwnWalk
namespace Go.Proofs.YtffpaedhdjnbjaaDoor
open Go.RowKit
/-- the slice value v owns the cells xs, in a block from base on -/
def OwnI (w : World) (base : Nat) (v : Value) (xs : List Int) : Prop := w.ownsRow base 2 1 v xs.length (xs.map (Value.int .i64))
theorem OwnI.nil (w : World) (base : Nat) : OwnI w base (.slice none 0 0) [] := World.ownsRow_nil w base _ 1
theorem OwnI.mono {w : World} {b b' : Nat} {v : Value} {xs : List Int} (h : OwnI w b v xs) (hb : b' ≤ b) : OwnI w b' v xs := World.ownsRow.mono h hb
theorem OwnI.lt {w : World} {b : Nat} {v : Value} {xs : List Int} (h : OwnI w b v xs) : ∀ k, v.ownBlock = some k → b ≤ k ∧ k < w.heap.size := World.ownsRow.lt h
theorem OwnI.kept {w w' : World} {b : Nat} {v : Value} {xs : List Int} {row : Option Nat} (h : OwnI w b v xs) (hg : w.grownBy w' row) (hne : v.ownBlock = none ∨ v.ownBlock ≠ row) : OwnI w' b v xs := World.ownsRow.kept h hg hne
theorem grown_of_below {a w : World} (h : Below a.heap.size a w) (row : Option Nat) : a.grownBy w row := ⟨h.os, h.tape, h.output, h.size, fun i hi _ => h.block i hi⟩
theorem OwnI.below {w w' : World} {b : Nat} {v : Value} {xs : List Int} (h : OwnI w b v xs) (hb : Below w.heap.size w w') : OwnI w' b v xs :=
  h.kept (grown_of_below hb none) (by cases hv : v.ownBlock <;> simp)
theorem OwnI.drewN {w : World} {b : Nat} {v : Value} {xs : List Int} (h : OwnI w b v xs) (n : Nat) : OwnI (w.drewN n) b v xs := h
theorem OwnI.alloc {w : World} {b : Nat} {v : Value} {xs : List Int} (h : OwnI w b v xs) (o : Obj) : OwnI (w.alloc o) b v xs := World.ownsRow.alloc h o
theorem OwnI.opened {w : World} {b : Nat} {v : Value} {xs : List Int} (h : OwnI w b v xs) :
    xs.length ≤ 9223372036854775807 ∧ ∃ A c, v = .slice A xs.length c ∧ (0 < xs.length → ∃ g, A = some ⟨g, 0, none⟩ ∧ b ≤ g ∧ g < w.heap.size ∧
      (∀ j, j < xs.length → w.cell? ⟨g, j, none⟩ = some (.int .i64 (xs[j]!))) ∧ (∀ j, w.frozen? ⟨g, j, none⟩ = false)) := by
  rcases h.2 with ⟨rfl, hn⟩ | ⟨g, cap, cur, rfl, hbase, hblk, hnc, hcm, hsz, htk⟩
  · exact ⟨by omega, none, 0, by rw [hn], fun hp => absurd hp (by omega)⟩
  · refine ⟨by unfold maxLen at hcm; omega, _, cap, rfl, fun hp => ⟨g, rfl, hbase, ?_, ?_, ?_⟩⟩
    · exact (World.ownsRow.lt h g rfl).2
    · intro j hj
      have := World.ownsRow.cellAt (n := xs.length) (size := 1) h j (by omega)
      rw [this, List.getElem?_map, List.getElem?_eq_getElem hj]
      simp [hj]
    · exact fun j => World.ownsRow.frozenAt h j
theorem grown_trans {a b c : World} {row : Option Nat} (h : a.grownBy b row) (k : b.grownBy c row) : a.grownBy c row :=
  ⟨k.os.trans h.os, k.tape.trans h.tape, k.output.trans h.output, Nat.le_trans h.size k.size, fun i hi hn => (k.block i (Nat.lt_of_lt_of_le hi h.size) hn).trans (h.block i hi hn)⟩
theorem infoI : (Tryd.prog.info? 2).map (fun i => (i.zero, i.size, i.bytes)) = some (some (.int .i64 0), 1, 8) := by kernel_rfl
theorem OwnI.snoc {w : World} {b : Nat} {v : Value} {xs : List Int} {y : Int} (h : w.ownsRow b 2 1 v (xs.length + 1) (xs.map (Value.int .i64) ++ [.int .i64 y])) : OwnI w b v (xs ++ [y]) := by
  unfold OwnI; rw [List.length_append, List.map_append]; exact h
/-- append(out, y) where out is a row of the call's own. -/
theorem wpList_appI {ops : Array Oper} {rest : List Oper} {o : Oper} {a : Act} {Q : Exit → Act → World → Prop} (hgd : o.guard = none) (s x : Operand)
    (ho : o.op = .call { callee := .builtin .append, args := #[s, x], argTypes := #[27, 27] }) (wr : World) (base : Nat) (v : Value) (xs : List Int) (y : Int)
    (hs : a.eval s = v) (hown : OwnI wr base v xs) (hx : a.eval x = .slice (some ⟨wr.heap.size, 0, none⟩) 1 1) (hlen : xs.length ≤ 10000000) (hbase : base ≤ wr.heap.size)
    (h : ∀ v' w', OwnI w' base v' (xs ++ [y]) → wr.grownBy w' v.ownBlock → wpList Tryd.prog ops Q rest (a.put o.dst v') w') :
    wpList Tryd.prog ops Q (o :: rest) a (wr.alloc (.cells #[.int .i64 y] 2)) := by
  obtain ⟨i0, hi, hz0, hz1, hz2⟩ := info_parts infoI
  refine wpList_append_own _ hgd s x 27 ho base 2 i0 (.int .i64 0) 1 8 Tryd.underlying27 hi hz0 hz1 hz2 rfl (by decide) v xs.length (xs.map (Value.int .i64)) hs (World.ownsRow.alloc hown _)
    ⟨wr.heap.size, 0, none⟩ 1 1 [.int .i64 y] hx rfl ?_ ?_ ?_ ?_ ?_ ?_
  · intro j u hu
    cases j with
    | zero => simp at hu; subst hu; exact (Blk.new wr _ _).c0
    | succ j => simp at hu
  · intro u hu; simp at hu; subst hu; rfl
  · unfold maxLen; omega
  · omega
  · simp; omega
  · intro v' w' hown' hgr _
    exact h v' w' (OwnI.snoc hown') (grown_trans (World.grownBy_alloc wr _ _) hgr)
/-- .. the new cell's block told by its number -/
theorem wpList_appI' {ops : Array Oper} {rest : List Oper} {o : Oper} {a : Act} {Q : Exit → Act → World → Prop} (hgd : o.guard = none) (s x : Operand)
    (ho : o.op = .call { callee := .builtin .append, args := #[s, x], argTypes := #[27, 27] }) (wr : World) (base : Nat) (v : Value) (xs : List Int) (y : Int)
    (hs : a.eval s = v) (hown : OwnI wr base v xs) (g : Nat) (hg : g = wr.heap.size) (hx : a.eval x = .slice (some ⟨g, 0, none⟩) 1 1) (hlen : xs.length ≤ 10000000) (hbase : base ≤ wr.heap.size)
    (h : ∀ v' w', OwnI w' base v' (xs ++ [y]) → wr.grownBy w' v.ownBlock → wpList Tryd.prog ops Q rest (a.put o.dst v') w') :
    wpList Tryd.prog ops Q (o :: rest) a (wr.alloc (.cells #[.int .i64 y] 2)) := by
  subst hg
  exact wpList_appI hgd s x ho wr base v xs y hs hown hx hlen hbase h
/-- the empty literal -/
theorem OwnI.lit0 (w : World) : OwnI (w.alloc (.cells #[] 2)) w.heap.size (.slice (some ⟨w.heap.size, 0, none⟩) 0 0) [] := World.ownsRow_lit w #[] 0 (Nat.le_refl _) (by unfold maxLen; omega) rfl
set_option maxHeartbeats 400000 in
theorem eqI_same {b1 b2 : Nat} {v1 v2 : Value} {xs : List Int} (w : World) (h1 : OwnI w b1 v1 xs) (h2 : OwnI w b2 v2 xs) :
    Calls Tryd.prog 40 #[v1, v2] w fun e w' => e = .returned (.bool true) ∧ ∃ q, w' = w.drewN q := by
  obtain ⟨hl, A1, c1, rfl, p1⟩ := h1.opened
  obtain ⟨_, A2, c2, rfl, p2⟩ := h2.opened
  clear h1 h2
  obtain ⟨n, hn⟩ : ∃ n, xs.length = n := ⟨_, rfl⟩
  rw [hn] at p1 p2 hl ⊢
  clear hn
  have P1 := Lib.hid p1; clear p1
  have P2 := Lib.hid p2; clear p2
  go_enter Tryd.func40, Tryd.ntmps40
  go_wp2
  go_loopw [5] (fun i wr => ∃ k : Nat, k ≤ n ∧ i = .int .i64 k ∧ ∃ q, wr = w.drewN q) (fun i _ => n - (intOf i).toNat)
  case atStart => exact ⟨0, by omega, rfl, 0, rfl⟩
  case round =>
    obtain ⟨k, hk, rfl, q, rfl⟩ := hrel
    by_cases hlt : k < n
    · obtain ⟨g1, rfl, _, _, hc1, _⟩ := P1.out (by omega)
      obtain ⟨g2, rfl, _, _, hc2, _⟩ := P2.out (by omega)
      have c1 := hc1 k hlt
      have c2 := hc2 k hlt
      clear hc1 hc2
      go_wp2_with fail
      go_quiet (fail)
      go_wp2
      go_roundw
      case rel => exact ⟨k + 1, by omega, by go_num, _, rfl⟩
      case measure => simp [intOf]; omega
    · go_wp2
      go_ret
      exact ⟨rfl, _, rfl⟩
/-- the marks k, k + 1, .. -/
def marks (k : Int) : Nat → List Int
  | 0 => []
  | n + 1 => k :: marks (k + 1) n
theorem marks_length (n : Nat) : ∀ k : Int, (marks k n).length = n := by
  induction n with
  | zero => intro k; rfl
  | succ n ih => intro k; simp [marks, ih]
theorem marks_get (n : Nat) : ∀ (k : Int) (j : Nat), j < n → (marks k n)[j]! = k + j := by
  induction n with
  | zero => intro k j h; omega
  | succ n ih =>
    intro k j h
    cases j with
    | zero => simp [marks]
    | succ j => simp only [marks]; rw [List.getElem!_cons_succ, ih _ _ (by omega)]; omega
theorem marks_snoc (n : Nat) : ∀ k : Int, marks k (n + 1) = marks k n ++ [k + n] := by
  induction n with
  | zero => intro k; simp [marks]
  | succ n ih =>
    intro k
    have e : k + 1 + (n : Int) = k + ((n + 1 : Nat) : Int) := by omega
    rw [marks, ih (k + 1), marks, e]; rfl
theorem marks_set (k : Int) (xs : List Int) (j : Nat) (h : j < xs.length) : (marks k j ++ xs.drop j).set j (k + j) = marks k (j + 1) ++ xs.drop (j + 1) := by
  rw [List.set_append_right _ _ (by rw [marks_length]; exact Nat.le_refl _), marks_length, Nat.sub_self, List.drop_eq_getElem_cons h, List.set_cons_zero, marks_snoc, List.append_assoc]
  rfl
theorem OwnI.stored {w : World} {b g c n : Nat} {xs : List Int} (h : w.ownsRow b 2 1 (.slice (some ⟨g, 0, none⟩) n c) n (xs.map (Value.int .i64))) (j : Nat) (u : Int) :
    (w.setCell ⟨g, j, none⟩ (.int .i64 u)).ownsRow b 2 1 (.slice (some ⟨g, 0, none⟩) n c) n ((xs.set j u).map (Value.int .i64)) ∧ w.grownBy (w.setCell ⟨g, j, none⟩ (.int .i64 u)) (some g) := by
  have := World.ownsRow.stored h j (.int .i64 u)
  rwa [← List.map_set] at this
set_option maxHeartbeats 400000 in
theorem markI {b : Nat} {v : Value} {xs : List Int} (k : Int) (w : World) (h : OwnI w b v xs) (k0 : 0 ≤ k) (k1 : k + xs.length ≤ 4611686018427387904) :
    Calls Tryd.prog 42 #[v, .int .i64 k] w fun e w' => e = .returned (.int .i64 (k + xs.length)) ∧ OwnI w' b v (marks k xs.length) ∧ w.grownBy w' v.ownBlock := by
  obtain ⟨hl, A1, c1, rfl, p1⟩ := h.opened
  have hA : xs.length = 0 ∨ ∃ g, A1 = some ⟨g, 0, none⟩ := by
    rcases Nat.eq_zero_or_pos xs.length with h0 | h0
    · exact .inl h0
    · obtain ⟨g, hg, _⟩ := p1 h0
      exact .inr ⟨g, hg⟩
  clear p1
  have HA := Lib.hid hA; clear hA
  have h' : w.ownsRow b 2 1 (.slice A1 xs.length c1) xs.length ((marks k 0 ++ xs.drop 0).map (Value.int .i64)) := by unfold OwnI at h; simpa [marks] using h
  have hfin : ∀ W : World, W.ownsRow b 2 1 (.slice A1 xs.length c1) xs.length ((marks k xs.length ++ xs.drop xs.length).map (Value.int .i64)) → OwnI W b (.slice A1 xs.length c1) (marks k xs.length) := by
    intro W hW
    unfold OwnI
    rw [marks_length]
    simpa using hW
  have HF := Lib.hid hfin; clear hfin
  have hset := marks_set k xs
  have HS := Lib.hid hset; clear hset
  clear h
  obtain ⟨n, hn⟩ : ∃ n, xs.length = n := ⟨_, rfl⟩
  rw [hn] at hl h' HA HF HS k1 ⊢
  clear hn
  go_enter Tryd.func42, Tryd.ntmps42
  go_wp2
  go_loopw [1, 5] (fun q i wr => ∃ j : Nat, j ≤ n ∧ i = .int .i64 j ∧ q = .int .i64 (k + j) ∧ wr.ownsRow b 2 1 (.slice A1 n c1) n ((marks k j ++ xs.drop j).map (Value.int .i64)) ∧ w.grownBy wr (Value.slice A1 n c1).ownBlock) (fun _ i _ => n - (intOf i).toNat)
  case atStart => exact ⟨0, by omega, rfl, by simp, h', World.grownBy.refl _ _⟩
  case round =>
    obtain ⟨j, hj, rfl, rfl, hown, hgr⟩ := hrel
    by_cases hlt : j < n
    · obtain ⟨g, rfl⟩ : ∃ g, A1 = some ⟨g, 0, none⟩ := by
        rcases HA.out with h0 | h0
        · omega
        · exact h0
      have hcell := World.ownsRow.cellAt hown j (by omega)
      have hfr := World.ownsRow.frozenAt hown j
      have hst := OwnI.stored hown j (k + j)
      rw [HS.out j (by omega)] at hst
      have hx : ∃ x, ((marks k j ++ xs.drop j).map (Value.int .i64))[j]? = some x := by
        have : j < ((marks k j ++ xs.drop j).map (Value.int .i64)).length := by rw [hown.1]; omega
        exact ⟨_, List.getElem?_eq_getElem this⟩
      obtain ⟨x, hx⟩ := hx
      rw [hx] at hcell
      clear hx
      have HST := Lib.hid hst; clear hst
      have HOW := Lib.hid hown; clear hown
      go_wp2
      go_roundw
      case rel => exact ⟨j + 1, by omega, by go_num, by go_num, HST.out.1, grown_trans hgr HST.out.2⟩
      case measure => simp [intOf]; omega
    · obtain rfl : j = n := by omega
      go_wp2
      go_ret
      exact ⟨rfl, HF.out _ hown, hgr⟩
set_option maxHeartbeats 400000 in
theorem heldI {b : Nat} {v : Value} {n : Nat} (k : Int) (w : World) (h : OwnI w b v (marks k n)) (k0 : 0 ≤ k) (k1 : k + n ≤ 4611686018427387904) :
    Calls Tryd.prog 43 #[v, .int .i64 k] w fun e w' => e = .returned (.int .i64 (k + n)) ∧ w = w' := by
  obtain ⟨hl, A1, c1, rfl, p1⟩ := h.opened
  rw [marks_length] at p1 hl ⊢
  have P1 := Lib.hid p1; clear p1
  clear h
  go_enter Tryd.func43, Tryd.ntmps43
  go_wp2
  go_loop [1, 5] (fun q i => ∃ j : Nat, j ≤ n ∧ i = .int .i64 j ∧ q = .int .i64 (k + j)) (fun _ i => n - (intOf i).toNat)
  case atStart => exact ⟨0, by omega, rfl, by simp⟩
  case round =>
    obtain ⟨j, hj, rfl, rfl⟩ := hrel
    by_cases hlt : j < n
    · obtain ⟨g1, rfl, _, _, hc1, _⟩ := P1.out (by omega)
      have c1 := hc1 j hlt
      rw [marks_get n k j hlt] at c1
      clear hc1
      go_wp2
      go_round
      case rel => exact ⟨j + 1, by omega, by go_num, by go_num⟩
      case measure => simp [intOf]; omega
    · obtain rfl : j = n := by omega
      go_wp2
      go_ret
      exact ⟨rfl, rfl⟩
theorem own_ne {w1 w2 : World} {b B : Nat} {v0 v1 : Value} {xs ys : List Int} (h0 : OwnI w1 b v0 xs) (h1 : OwnI w2 B v1 ys) (hB : w1.heap.size ≤ B) : v0.ownBlock = none ∨ v0.ownBlock ≠ v1.ownBlock := by
  cases h : v0.ownBlock with
  | none => exact .inl rfl
  | some k =>
    refine .inr fun e => ?_
    have a := (h0.lt k h).2
    have b := (h1.lt k e.symm).1
    omega
theorem OwnI.below_grown {B : Nat} {a w w' : World} {v : Value} {xs : List Int} (hv : OwnI w B v xs) (h : Below B a w) (hg : w.grownBy w' v.ownBlock) (hB : B ≤ w.heap.size) : Below B a w' :=
  h.grown hg hB fun k hk => (hv.lt k hk).1
theorem OwnI.blk {w w' : World} {B g : Nat} {t : TypeId} {cs : Array Value} {v : Value} {xs : List Int} (hv : OwnI w B v xs) (hb : Blk w g t cs) (hg : w.grownBy w' v.ownBlock) (ht : 2 ≠ t) : Blk w' g t cs :=
  hb.grown hg (fun e => own_blk_ne hv hb ht e.symm)
theorem below_grown {a w w' : World} {b : Nat} {v : Value} {xs : List Int} (h : Below a.heap.size a w) (hg : w.grownBy w' v.ownBlock) (hv : OwnI w b v xs) (hb : a.heap.size ≤ b) : Below a.heap.size a w' :=
  h.grown hg h.size fun k hk => Nat.le_trans hb (hv.lt k hk).1
end Go.Proofs.YtffpaedhdjnbjaaDoor
