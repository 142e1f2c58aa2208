/- Texts put together: Draw7 TxtP TxtA HeldS. No condition beyond those that stand in each. -/
import Derived.Test.YtmpgokijlikddaaGreatDoorRl6
import Derived.Test.YtmpgokijlikddaaGreatDoorRl5
import Derived.IntWalk
import Derived.Test.YtmpgokijlikddaaGreatDoorRegY
import Derived.Lib.Join
import Derived.Lib.ItoaMem
import Derived.Lib.ItoaLen
import Derived.Test.YtmpgokijlikddaaGreatDoorStrs
import Derived.Test.YtmpgokijlikddaaGreatDoorRl1
import Derived.Maps.AppendAt
import Derived.Test.YtmpgokijlikddaaGreatDoorWrds
import Derived.Test.YtmpgokijlikddaaGreatDoorBytes
import Derived.Deep.RegionHeld3
/- The draw of a list of reigns. Condition: the source lies as told. -/
namespace Go.Proofs.YtmpgokijlikddaaGreatDoor
open Go.RowKit
theorem Off.grown {g : Nat} {w w' : World} (h : Off g w w') : w.grownBy w' (some g) := ⟨h.os, h.tape, h.output, h.size, fun i hi hne => h.block i hi (fun e => hne (by rw [e]))⟩
theorem OwnR.off {w w' : World} {b g : Nat} {v : Value} {l : List RG} (h : OwnR w b v l) (k : Off g w w') (hg : g < b) : OwnR w' b v l :=
  h.kept k.grown (by
    cases e : v.ownBlock with
    | none => exact .inl rfl
    | some j => refine .inr fun e' => ?_; injection e' with e'; have := (h.lt j e).1; omega)
theorem Off.own {g : Nat} {w w' w2 : World} {row : Option Nat} (h : Off g w w') (hg : w'.grownBy w2 row) (hr : ∀ k, row = some k → w.heap.size ≤ k) : Off g w w2 :=
  ⟨hg.os.trans h.os, hg.tape.trans h.tape, hg.output.trans h.output, Nat.le_trans h.size hg.size, fun b hb hn => (hg.block b (Nat.lt_of_lt_of_le hb h.size) (fun e => by have := hr b e.symm; omega)).trans (h.block b hb hn)⟩
theorem Src.own {w w' w2 : World} {g n c : Nat} {a : Option Addr} {xs : List Int} {row : Option Nat} (h : Src w' g a n c xs) (h0 : Src w g a n c xs) (hg : w'.grownBy w2 row) (hr : ∀ k, row = some k → w.heap.size ≤ k) : Src w2 g a n c xs := by
  have hlt := h0.lt
  obtain ⟨⟨k, sd, hB, h1⟩, h2, h3⟩ := h
  refine ⟨⟨k, sd, hB.grown hg (fun e => by have := hr g e.symm; omega), h1⟩, fun hn => ?_, h3⟩
  obtain ⟨b1, o1, e1, hl1, hc1⟩ := h2 hn
  obtain ⟨b2, o2, e2, hl2, _⟩ := h0.2.1 hn
  rw [e1] at e2
  injection e2 with e2
  injection e2 with e3
  refine ⟨b1, o1, e1, Nat.lt_of_lt_of_le hl1 hg.size, fun j hj => ?_⟩
  rw [World.cell?_of_block (a := ⟨b1, o1 + j, none⟩) (hg.block b1 hl1 (fun e => by have := hr b1 e.symm; omega))]
  exact hc1 j hj
theorem OwnR.atG {w : World} {b n c G : Nat} {l : List RG} (h : OwnR w b (.slice (some ⟨G, 0, none⟩) n c) l) (j : Nat) (hj : j < l.length) : b ≤ G ∧ G < w.heap.size ∧
    w.cell? ⟨G, j * 3, none⟩ = some (.string ⟨(l.getD j rg0).1.toArray⟩) ∧ w.cell? ⟨G, j * 3 + 1, none⟩ = some (.int .i64 (l.getD j rg0).2.1) ∧ w.cell? ⟨G, j * 3 + 2, none⟩ = some (.int .i64 (l.getD j rg0).2.2) ∧ ∀ i, w.frozen? ⟨G, i, none⟩ = false := by
  obtain ⟨_, A, c', e, P⟩ := h.opened
  injection e with e1 e2 e3
  subst e1
  obtain ⟨g', hg, hb, hR, hf⟩ := P (by omega)
  injection hg with hg
  injection hg with hg
  subst hg
  obtain ⟨h1, h2⟩ := hR (by omega)
  obtain ⟨a, b, c⟩ := h2 j hj
  exact ⟨hb, h1, a, b, c, hf⟩
/-- a reign that was drawn -/
def rgB (r : RG) : Prop := r.1.length ≤ 20 ∧ -10 ≤ r.2.1 ∧ r.2.1 ≤ 3000000 ∧ -20 ≤ r.2.2 ∧ r.2.2 ≤ 4000000
theorem rgB_swap {l : List RG} {i j : Nat} (h : ∀ r ∈ l, rgB r) (hi : i < l.length) (hj : j < l.length) : ∀ r ∈ (l.set i (l.getD j rg0)).set j (l.getD i rg0), rgB r := by
  intro r hr
  have e1 : l.getD i rg0 = l[i] := by simp [hi]
  have e2 : l.getD j rg0 = l[j] := by simp [hj]
  rcases List.mem_or_eq_of_mem_set hr with hr | rfl
  · rcases List.mem_or_eq_of_mem_set hr with hr | rfl
    · exact h r hr
    · rw [e2]; exact h _ (List.getElem_mem hj)
  · rw [e1]; exact h _ (List.getElem_mem hi)
end Go.Proofs.YtmpgokijlikddaaGreatDoor
/- The text of the reigns of a day, plainly. No condition. -/
namespace Go.Proofs.YtmpgokijlikddaaGreatDoor
/-- one reign's word: the year in decimal, a blank, the king -/
def wdT (rs : List RG) (m : Int) (i : Int) : List UInt8 := Lib.decDigits (ky (rs.getD i.toNat rg0).2.1 m).toNat ++ ([32] ++ (rs.getD i.toNat rg0).1)
def wdsT (rs : List RG) (m : Int) (l : List Int) : List (List UInt8) := l.map (wdT rs m)
theorem wdsT_snoc (rs : List RG) (m : Int) (l : List Int) (k : Nat) (h : k < l.length) : wdsT rs m (l.take (k + 1)) = wdsT rs m (l.take k) ++ [wdT rs m (l.getD k 0)] := by
  unfold wdsT
  rw [List.take_succ_eq_append_getElem h, List.map_append]
  simp [h]
theorem onK_mem {rs : List RG} {m : Int} : ∀ {k : Nat} {x : Int}, x ∈ onK rs m k → ∃ j : Nat, j < k ∧ x = j ∧ inB m (rs.getD j rg0).2.1 (rs.getD j rg0).2.2 = true
  | 0, x, h => by simp [onK] at h
  | k + 1, x, h => by
    cases hb : inB m (rs.getD k rg0).2.1 (rs.getD k rg0).2.2 with
    | false =>
      rw [onK_F hb] at h
      obtain ⟨j, hj, e⟩ := onK_mem h
      exact ⟨j, by omega, e⟩
    | true =>
      rw [onK_T hb] at h
      rcases List.mem_append.1 h with h | h
      · obtain ⟨j, hj, e⟩ := onK_mem h
        exact ⟨j, by omega, e⟩
      · exact ⟨k, by omega, List.mem_singleton.1 h, hb⟩
theorem getD_memI {l : List Int} {j : Nat} (h : j < l.length) : l.getD j 0 ∈ l := by
  rw [List.getD_eq_getElem?_getD, List.getElem?_eq_getElem h]; exact List.getElem_mem h
/-- the j-th reign of a day -/
theorem onK_at {rs : List RG} {m : Int} {k j : Nat} (h : j < (onK rs m k).length) : ∃ i : Nat, i < k ∧ (onK rs m k).getD j 0 = i ∧ (rs.getD i rg0).2.1 ≤ m ∧ m ≤ (rs.getD i rg0).2.2 := by
  obtain ⟨i, hi, e, hb⟩ := onK_mem (getD_memI h)
  unfold inB at hb
  simp only [decide_eq_true_eq] at hb
  exact ⟨i, hi, e, hb.1, hb.2⟩
theorem wdT_at (rs : List RG) (m : Int) (i : Nat) : wdT rs m i = Lib.decDigits (ky (rs.getD i rg0).2.1 m).toNat ++ ([32] ++ (rs.getD i rg0).1) := rfl
/-- the text, and the code -/
def txF (rs : List RG) (m : Int) : List UInt8 × Int :=
  if areB rs then (if inB m 0 730499 then ((if onK rs m rs.length = [] then [45] else Lib.join (wdsT rs m (onK rs m rs.length)) [44]), 0) else ([], 2)) else ([], 1)
theorem wdT_len {rs : List RG} {m : Int} {x : Int} (hk : ∀ i : Nat, (rs.getD i rg0).1.length ≤ 12) (h1 : 1 ≤ ky (rs.getD x.toNat rg0).2.1 m) (h2 : ky (rs.getD x.toNat rg0).2.1 m ≤ 2000) : (wdT rs m x).length ≤ 40 := by
  unfold wdT
  have h3 : (Lib.decDigits (ky (rs.getD x.toNat rg0).2.1 m).toNat).length ≤ 20 := by rw [Lib.decDigits_length]; exact Lib.nDigits_le20 _ (by omega)
  have := hk x.toNat
  simp only [List.length_append, List.length_cons, List.length_nil]
  omega
end Go.Proofs.YtmpgokijlikddaaGreatDoor
/- The text of the reigns of a day: what the program and the reference share. Printed by gen_txt.py. Conditions: lengths that a machine can hold; how the list lies. -/
namespace Go.Proofs.YtmpgokijlikddaaGreatDoor
open Go.RowKit
/-- append(out, y) at a step of a drawn region, with the block of the new row -/
theorem step_appS {ops : Array Oper} {o : Oper} {a : Act} {K : Act → World → Prop} {Q : Exit → Act → World → Prop} {E : Prop} (hgd : o.guard = none) (s x : Operand)
    (ho : o.op = .call { callee := .builtin .append, args := #[s, x], argTypes := #[59, 59] }) (W : World) (base : Nat) (v : Value) (xs : List (List UInt8)) (y : List UInt8)
    (hs : a.eval s = v) (hown : OwnS W base v xs) (g : Nat) (hx : a.eval x = .slice (some ⟨g, 0, none⟩) 1 1) (hc : W.cell? ⟨g, 0, none⟩ = some (.string ⟨y.toArray⟩)) (hlen : xs.length ≤ 10000000) (hbase : base ≤ W.heap.size)
    (h : ∀ v' w', OwnS w' base v' (xs ++ [y]) → W.grownBy w' v.ownBlock → (v'.ownBlock = v.ownBlock ∨ v'.ownBlock = some W.heap.size) → K (a.put o.dst v') w') :
    if Region.wanted o (yielded ops a.tmps) = true then Oper.wp Tryz.prog o a W K Q else E := by
  have hw : Region.wanted o (yielded ops a.tmps) = true := by simp [Region.wanted, hgd]
  rw [if_pos hw]
  obtain ⟨i0, hi, hz0, hz1, hz2⟩ := info_parts infoS
  obtain ⟨v', w', hr, h2, h3, _, h5⟩ := run_append_own_at (P := Tryz.prog) W base 59 o.type 9 i0 (.string ByteArray.empty) 1 16 Tryz.underlying59 hi hz0 hz1 hz2 rfl (by decide) v xs.length (xs.map sv) hown
    ⟨g, 0, none⟩ 1 1 [.string ⟨y.toArray⟩] rfl (by
      intro j u hu
      cases j with
      | zero => simp at hu; subst hu; simpa [Addr.add] using hc
      | succ j => simp at hu) (by intro u hu; simp at hu; subst hu; rfl) (by unfold maxLen; omega) (by omega) hbase
  unfold Oper.wp execOp
  simp only [ho, resolve, invoke, builtin, Sem.run_bind, Sem.run_pure, Result.andThen_ok, List.map_toArray, List.map_cons, List.map_nil, hs, hx, hr]
  exact h v' w' (OwnS.snoc h2) h3 h5
/-- what a round of the loop knows of a later world: the old memory, the words so far, the list of the day's reigns, and the world at the round's begin -/
def TxW (w0 w1 w : World) (B : Nat) (vo : Value) (xs : List (List UInt8)) (Bn : Nat) (vn : Value) (on : List Int) : Prop := Below w0.heap.size w0 w ∧ OwnS w B vo xs ∧ OwnI w Bn vn on ∧ Below w1.heap.size w1 w
section
variable {w0 w1 w w' : World} {B Bn : Nat} {vo vn : Value} {xs : List (List UInt8)} {on : List Int}
theorem TxW.step (h : TxW w0 w1 w B vo xs Bn vn on) (hb : Below w.heap.size w w') : TxW w0 w1 w' B vo xs Bn vn on :=
  ⟨below_step h.1 hb, h.2.1.below hb, h.2.2.1.below hb, below_step h.2.2.2 hb⟩
theorem TxW.drew (h : TxW w0 w1 w B vo xs Bn vn on) : TxW w0 w1 w.drew B vo xs Bn vn on :=
  h.step ⟨rfl, rfl, rfl, Nat.le_refl _, fun _ _ => rfl⟩
theorem TxW.cell (h : TxW w0 w1 w B vo xs Bn vn on) {p : Addr} (hp : p.block < w0.heap.size) {v : Value} (hc : w0.cell? p = some v) : w.cell? p = some v := (h.1.cell hp).trans hc
theorem TxW.cell1 (h : TxW w0 w1 w B vo xs Bn vn on) {p : Addr} (hp : p.block < w1.heap.size) {v : Value} (hc : w1.cell? p = some v) : w.cell? p = some v := (h.2.2.2.cell hp).trans hc
end
theorem ownS_neI {w1 w2 : World} {b B : Nat} {v0 v1 : Value} {l : List Int} {m : List (List UInt8)} (h0 : OwnS w1 b v0 m) (h1 : OwnI w2 B v1 l) (hB : w1.heap.size ≤ B) : v1.ownBlock = none ∨ v1.ownBlock ≠ v0.ownBlock := by
  cases h : v1.ownBlock with
  | none => exact .inl rfl
  | some k => refine .inr fun e => ?_; have := (h0.lt k e.symm).2; have := (h1.lt k h).1; omega
theorem tx_ne {W : World} {B : Nat} {vo vn v5 : Value} {on : List Int} (hb : v5.ownBlock = vo.ownBlock ∨ v5.ownBlock = some W.heap.size) (hne : vn.ownBlock = none ∨ vn.ownBlock ≠ vo.ownBlock) (h : OwnI W B vn on) : vn.ownBlock = none ∨ vn.ownBlock ≠ v5.ownBlock := by
  rcases hb with e | e
  · rw [e]; exact hne
  · cases hv : vn.ownBlock with
    | none => exact .inl rfl
    | some k => refine .inr fun h' => ?_; rw [e] at h'; injection h' with h'; have := (h.lt k hv).2; omega
theorem OwnS.toS {w : World} {b : Nat} {v : Value} {xs ys : List (List UInt8)} (h : OwnS w b v xs) (e : xs = ys) : OwnS w b v ys := e ▸ h
theorem below_unS {a w : World} (h : Below a.drew.heap.size a.drew w) : Below a.heap.size a w := ⟨h.os, h.tape, h.output, h.size, h.block⟩
theorem are_name {rs : List RG} (h : areB rs = true) : ∀ i : Nat, (rs.getD i rg0).1.length ≤ 12 := by
  intro i
  by_cases hi : i < rs.length
  · unfold areB at h
    rw [Bool.and_eq_true, List.all_eq_true] at h
    have := h.1 i (List.mem_range.2 hi)
    unfold okAt at this
    rw [Bool.and_eq_true] at this
    have := (regB_iff.1 this.1).1
    unfold smallB at this
    simp only [Bool.and_eq_true, decide_eq_true_eq] at this
    omega
  · rw [List.getD_eq_getElem?_getD, List.getElem?_eq_none (by omega)]
    decide
theorem wdsT_len (rs : List RG) (m : Int) (l : List Int) : (wdsT rs m l).length = l.length := by simp [wdsT]
theorem on_ky {rs : List RG} {m : Int} (hA : areB rs = true) (hm : inB m 0 730499 = true) : ∀ x ∈ onK rs m rs.length, 1 ≤ ky (rs.getD x.toNat rg0).2.1 m ∧ ky (rs.getD x.toNat rg0).2.1 m ≤ 2000 := by
  intro x hx
  obtain ⟨j, hj, rfl, hb⟩ := onK_mem hx
  obtain ⟨a, _, _⟩ := (are_open hA).2 j hj
  unfold inB at hb hm
  simp only [decide_eq_true_eq] at hb hm
  have := ky_bd (rs.getD j rg0).2.1 m a hb.1 hm.2
  exact ⟨this.1, this.2.1⟩
theorem wdsT_each {rs : List RG} {m : Int} {on : List Int} (hk : ∀ i : Nat, (rs.getD i rg0).1.length ≤ 12) (hy : ∀ x ∈ on, 1 ≤ ky (rs.getD x.toNat rg0).2.1 m ∧ ky (rs.getD x.toNat rg0).2.1 m ≤ 2000) (i : Nat) : ((wdsT rs m on).getD i []).length ≤ 1000 := by
  unfold wdsT
  rw [List.getD_eq_getElem?_getD, List.getElem?_map]
  cases h : on[i]? with
  | none => simp
  | some x =>
    obtain ⟨a, b⟩ := hy x (List.mem_of_getElem? h)
    have := wdT_len (x := x) hk a b
    simp only [Option.map_some, Option.getD_some]
    omega
end Go.Proofs.YtmpgokijlikddaaGreatDoor
/- Marks in a slice of texts: written and read again. Conditions: that the slice is the call's own. -/
namespace Go.Proofs.YtmpgokijlikddaaGreatDoor
open Go.RowKit
/-- the text of a number, from its last digit on -/
def mkD : Nat → Nat → List UInt8 → List UInt8
  | 0, _, o => o
  | f + 1, k, o => if k = 0 then o else mkD f (k / 10) ((48 + k % 10).toUInt8 :: o)
def mkT (k : Nat) : List UInt8 := 109 :: mkD 30 k []
theorem mkD_step {f k : Nat} {o : List UInt8} (h : 0 < k) : mkD (f + 1) k o = mkD f (k / 10) ((48 + k % 10).toUInt8 :: o) := by rw [mkD, if_neg (by omega)]
theorem mkD_zero (f : Nat) (o : List UInt8) : mkD f 0 o = o := by cases f <;> simp [mkD]
theorem dig_nat (j : Nat) : ((48 + j % 10).toUInt8.toNat : Int) = 48 + (j : Int) % 10 := by
  have h : (48 + j % 10).toUInt8.toNat = (48 + j % 10) % 256 := by simp [Nat.toUInt8]
  rw [h]; omega
/-- one byte, turned to a text -/
theorem conv_one (wr : World) (j : Nat) : (convert 22 9 (.slice (some ⟨wr.heap.size, 0, none⟩) 1 1)).run Tryz.prog (wr.alloc (.cells #[.int .u8 (48 + (j : Int) % 10)] 5)) = .ok (.string ⟨[(48 + j % 10).toUInt8].toArray⟩) (wr.alloc (.cells #[.int .u8 (48 + (j : Int) % 10)] 5)) := by
  refine run_convert_bytes_back _ 22 9 5 ⟨wr.heap.size, 0, none⟩ 1 [(48 + j % 10).toUInt8] Tryz.underlying22 Tryz.underlying5 Tryz.underlying9 fun i hi => ?_
  obtain rfl : i = 0 := by simpa using hi
  have e : (⟨wr.heap.size, 0, none⟩ : Addr).add 0 = ⟨wr.heap.size, 0, none⟩ := by simp [Addr.add]
  rw [e, (Blk.new wr _ _).c0, ← dig_nat j]; rfl
theorem own_neS {w1 w2 : World} {b1 b2 : Nat} {v1 v2 : Value} {x1 x2 : List (List UInt8)} (h1 : OwnS w1 b1 v1 x1) (h2 : OwnS w2 b2 v2 x2) (hb : w1.heap.size ≤ b2) : v1.ownBlock = none ∨ v1.ownBlock ≠ v2.ownBlock := by
  cases e1 : v1.ownBlock with
  | none => exact .inl rfl
  | some k =>
    refine .inr fun e => ?_
    have l1 := (h1.lt k e1).2
    have l2 := (h2.lt k e.symm).1
    omega
end Go.Proofs.YtmpgokijlikddaaGreatDoor
