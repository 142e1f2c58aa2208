/- The text of the reigns of a day: what the program and the reference share. Printed by gen_txt.py. Conditions: lengths that a machine can hold; how the list lies. -/
import Derived.Test.YtoadkljaiegnlaaDoorTxtP
import Derived.Test.YtoadkljaiegnlaaDoorKingP
import Derived.Test.YtoadkljaiegnlaaDoorStrs
import Derived.Test.YtoadkljaiegnlaaDoorSlices
import Derived.Maps.AppendAt
namespace Go.Proofs.YtoadkljaiegnlaaDoor
open Go.RowKit
/-- append(out, y) at a step of a drawn region, with the block of the new row -/
theorem step_appS {ops : Array Oper} {o : Oper} {a : Act} {K : Act → World → Prop} {Q : Exit → Act → World → Prop} {E : Prop} (hgd : o.guard = none) (s x : Operand)
    (ho : o.op = .call { callee := .builtin .append, args := #[s, x], argTypes := #[52, 52] }) (W : World) (base : Nat) (v : Value) (xs : List (List UInt8)) (y : List UInt8)
    (hs : a.eval s = v) (hown : OwnS W base v xs) (g : Nat) (hx : a.eval x = .slice (some ⟨g, 0, none⟩) 1 1) (hc : W.cell? ⟨g, 0, none⟩ = some (.string ⟨y.toArray⟩)) (hlen : xs.length ≤ 10000000) (hbase : base ≤ W.heap.size)
    (h : ∀ v' w', OwnS w' base v' (xs ++ [y]) → W.grownBy w' v.ownBlock → (v'.ownBlock = v.ownBlock ∨ v'.ownBlock = some W.heap.size) → K (a.put o.dst v') w') :
    if Region.wanted o (yielded ops a.tmps) = true then Oper.wp Tryd.prog o a W K Q else E := by
  have hw : Region.wanted o (yielded ops a.tmps) = true := by simp [Region.wanted, hgd]
  rw [if_pos hw]
  obtain ⟨i0, hi, hz0, hz1, hz2⟩ := info_parts infoS
  obtain ⟨v', w', hr, h2, h3, _, h5⟩ := run_append_own_at (P := Tryd.prog) W base 52 o.type 9 i0 (.string ByteArray.empty) 1 16 Tryd.underlying52 hi hz0 hz1 hz2 rfl (by decide) v xs.length (xs.map sv) hown
    ⟨g, 0, none⟩ 1 1 [.string ⟨y.toArray⟩] rfl (by
      intro j u hu
      cases j with
      | zero => simp at hu; subst hu; simpa [Addr.add] using hc
      | succ j => simp at hu) (by intro u hu; simp at hu; subst hu; rfl) (by unfold maxLen; omega) (by omega) hbase
  unfold Oper.wp execOp
  simp only [ho, resolve, invoke, builtin, Sem.run_bind, Sem.run_pure, Result.andThen_ok, List.map_toArray, List.map_cons, List.map_nil, hs, hx, hr]
  exact h v' w' (OwnS.snoc h2) h3 h5
/-- what a round of the loop knows of a later world: the old memory, the words so far, the list of the day's reigns, and the world at the round's begin -/
def TxW (w0 w1 w : World) (B : Nat) (vo : Value) (xs : List (List UInt8)) (Bn : Nat) (vn : Value) (on : List Int) : Prop := Below w0.heap.size w0 w ∧ OwnS w B vo xs ∧ OwnI w Bn vn on ∧ Below w1.heap.size w1 w
section
variable {w0 w1 w w' : World} {B Bn : Nat} {vo vn : Value} {xs : List (List UInt8)} {on : List Int}
theorem TxW.step (h : TxW w0 w1 w B vo xs Bn vn on) (hb : Below w.heap.size w w') : TxW w0 w1 w' B vo xs Bn vn on :=
  ⟨below_step h.1 hb, h.2.1.below hb, h.2.2.1.below hb, below_step h.2.2.2 hb⟩
theorem TxW.drew (h : TxW w0 w1 w B vo xs Bn vn on) : TxW w0 w1 w.drew B vo xs Bn vn on :=
  h.step ⟨rfl, rfl, rfl, Nat.le_refl _, fun _ _ => rfl⟩
theorem TxW.cell (h : TxW w0 w1 w B vo xs Bn vn on) {p : Addr} (hp : p.block < w0.heap.size) {v : Value} (hc : w0.cell? p = some v) : w.cell? p = some v := (h.1.cell hp).trans hc
theorem TxW.cell1 (h : TxW w0 w1 w B vo xs Bn vn on) {p : Addr} (hp : p.block < w1.heap.size) {v : Value} (hc : w1.cell? p = some v) : w.cell? p = some v := (h.2.2.2.cell hp).trans hc
end
theorem ownS_neI {w1 w2 : World} {b B : Nat} {v0 v1 : Value} {l : List Int} {m : List (List UInt8)} (h0 : OwnS w1 b v0 m) (h1 : OwnI w2 B v1 l) (hB : w1.heap.size ≤ B) : v1.ownBlock = none ∨ v1.ownBlock ≠ v0.ownBlock := by
  cases h : v1.ownBlock with
  | none => exact .inl rfl
  | some k => refine .inr fun e => ?_; have := (h0.lt k e.symm).2; have := (h1.lt k h).1; omega
theorem tx_ne {W : World} {B : Nat} {vo vn v5 : Value} {on : List Int} (hb : v5.ownBlock = vo.ownBlock ∨ v5.ownBlock = some W.heap.size) (hne : vn.ownBlock = none ∨ vn.ownBlock ≠ vo.ownBlock) (h : OwnI W B vn on) : vn.ownBlock = none ∨ vn.ownBlock ≠ v5.ownBlock := by
  rcases hb with e | e
  · rw [e]; exact hne
  · cases hv : vn.ownBlock with
    | none => exact .inl rfl
    | some k => refine .inr fun h' => ?_; rw [e] at h'; injection h' with h'; have := (h.lt k hv).2; omega
theorem OwnS.toS {w : World} {b : Nat} {v : Value} {xs ys : List (List UInt8)} (h : OwnS w b v xs) (e : xs = ys) : OwnS w b v ys := e ▸ h
theorem below_unS {a w : World} (h : Below a.drew.heap.size a.drew w) : Below a.heap.size a w := ⟨h.os, h.tape, h.output, h.size, h.block⟩
theorem are_name {rs : List RG} (h : areB rs = true) : ∀ i : Nat, (rs.getD i rg0).1.length ≤ 12 := by
  intro i
  by_cases hi : i < rs.length
  · unfold areB at h
    rw [Bool.and_eq_true, List.all_eq_true] at h
    have := h.1 i (List.mem_range.2 hi)
    unfold okAt at this
    rw [Bool.and_eq_true] at this
    have := (regB_iff.1 this.1).1
    unfold smallB at this
    simp only [Bool.and_eq_true, decide_eq_true_eq] at this
    omega
  · rw [List.getD_eq_getElem?_getD, List.getElem?_eq_none (by omega)]
    decide
theorem wdsT_len (rs : List RG) (m : Int) (l : List Int) : (wdsT rs m l).length = l.length := by simp [wdsT]
theorem on_ky {rs : List RG} {m : Int} (hA : areB rs = true) (hm : inB m 0 730499 = true) : ∀ x ∈ onK rs m rs.length, 1 ≤ ky (rs.getD x.toNat rg0).2.1 m ∧ ky (rs.getD x.toNat rg0).2.1 m ≤ 2000 := by
  intro x hx
  obtain ⟨j, hj, rfl, hb⟩ := onK_mem hx
  obtain ⟨a, _, _⟩ := (are_open hA).2 j hj
  unfold inB at hb hm
  simp only [decide_eq_true_eq] at hb hm
  have := ky_bd (rs.getD j rg0).2.1 m a hb.1 hm.2
  exact ⟨this.1, this.2.1⟩
theorem wdsT_each {rs : List RG} {m : Int} {on : List Int} (hk : ∀ i : Nat, (rs.getD i rg0).1.length ≤ 12) (hy : ∀ x ∈ on, 1 ≤ ky (rs.getD x.toNat rg0).2.1 m ∧ ky (rs.getD x.toNat rg0).2.1 m ≤ 2000) (i : Nat) : ((wdsT rs m on).getD i []).length ≤ 1000 := by
  unfold wdsT
  rw [List.getD_eq_getElem?_getD, List.getElem?_map]
  cases h : on[i]? with
  | none => simp
  | some x =>
    obtain ⟨a, b⟩ := hy x (List.mem_of_getElem? h)
    have := wdT_len (x := x) hk a b
    simp only [Option.map_some, Option.getD_some]
    omega
end Go.Proofs.YtoadkljaiegnlaaDoor
