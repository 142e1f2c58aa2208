/- The days that are in two of a list of reigns: the program's and the reference's functions. Printed by walks/gen_disp.py. Conditions: lengths that a machine can hold; how the list lies. -/
import Derived.Test.YtmpgokijlikddaaGreatDoorAreI
import Derived.Test.YtmpgokijlikddaaGreatDoorRl3
import Derived.Maps.AppendAt
import Derived.Test.YtmpgokijlikddaaGreatDoorRl8
import Derived.Test.YtmpgokijlikddaaGreatDoorRl4
namespace Go.Proofs.YtmpgokijlikddaaGreatDoor
open Go.RowKit
theorem below_undrewD {a w : World} (h : Below a.drew.heap.size a.drew w) : Below a.heap.size a w := ⟨h.os, h.tape, h.output, h.size, h.block⟩
theorem addr_addD (g j : Nat) : (⟨g, 0, none⟩ : Addr).add j = ⟨g, j, none⟩ := by unfold Addr.add; split <;> simp_all
theorem OwnP.capOf {w : World} {b n c g : Nat} {l : List Sp} (h : OwnP w b (.slice (some ⟨g, 0, none⟩) n c) l) : n ≤ c ∧ c ≤ 9223372036854775807 := by
  rcases h.2 with ⟨e, _⟩ | ⟨g', cap, cur, e, _, _, hnc, hcm, _, _⟩
  · cases e
  · injection e with e1 e2 e3
    subst e3
    exact ⟨by omega, by unfold maxLen at hcm; omega⟩
/-- append(out, list..) at a step of a drawn region -/
theorem step_appL {ops : Array Oper} {o : Oper} {a : Act} {K : Act → World → Prop} {Q : Exit → Act → World → Prop} {E : Prop} (hgd : o.guard = none) (s x : Operand)
    (ho : o.op = .call { callee := .builtin .append, args := #[s, x], argTypes := #[27, 27] }) (wr : World) (base : Nat) (v : Value) (l : List Sp)
    (hs : a.eval s = v) (hown : OwnP wr base v l) (b2 : Nat) (v2 : Value) (m : List Sp) (hx : a.eval x = v2) (V2 : OwnP wr b2 v2 m) (hne : v2 ≠ .slice none 0 0) (hlen : l.length + m.length ≤ 10000000) (hbase : base ≤ wr.heap.size)
    (h : ∀ v' w', OwnP w' base v' (l ++ m) → wr.grownBy w' v.ownBlock → (v'.ownBlock = v.ownBlock ∨ v'.ownBlock = some wr.heap.size) → K (a.put o.dst v') w') :
    if Region.wanted o (yielded ops a.tmps) = true then Oper.wp Tryz.prog o a wr K Q else E := by
  have hw : Region.wanted o (yielded ops a.tmps) = true := by simp [Region.wanted, hgd]
  rw [if_pos hw]
  obtain ⟨i0, hi, hz0, hz1, hz2⟩ := info_parts infoP
  rcases V2.2 with ⟨e, _⟩ | ⟨g, cap, cur, rfl, _, _, _, _, _, _⟩
  · exact absurd e hne
  have hcell : ∀ j u, (flatP m)[j]? = some u → wr.cell? ((⟨g, 0, none⟩ : Addr).add j) = some u := by
    intro j u hu
    have hj : j < (flatP m).length := (List.getElem?_eq_some_iff.1 hu).1
    rw [flatP_len] at hj
    have := World.ownsRow.cellAt (n := m.length) (size := 2) V2 j hj
    rw [addr_addD]
    exact this.trans hu
  obtain ⟨v', w', hr, h2, h3, _, h5⟩ := run_append_own_at (P := Tryz.prog) wr base 27 o.type 47 i0 (.agg #[.int .i64 0, .int .i64 0]) 2 16 Tryz.underlying27 hi hz0 hz1 hz2 rfl (by decide) v l.length (flatP l) hown
    ⟨g, 0, none⟩ m.length cap (flatP m) (flatP_len m) hcell (flatP_one m) (by unfold maxLen; omega) (by omega) hbase
  unfold Oper.wp execOp
  simp only [ho, resolve, invoke, builtin, Sem.run_bind, Sem.run_pure, Result.andThen_ok, List.map_toArray, List.map_cons, List.map_nil, hs, hx, hr]
  refine h v' w' ?_ h3 h5
  unfold OwnP
  rw [List.length_append, flatP_app]
  exact h2
set_option maxRecDepth 100000 in
theorem run_sl (g x n cc : Nat) (hx : x < n) (hc : n ≤ cc) (W : World) : (Instr.sliceAt 27 (.slice (some ⟨g, 0, none⟩) n cc) (some (.int .i64 x)) (some (.int .i64 ((x : Int) + 1))) none).run Tryz.prog W = .ok (.slice (some ⟨g, x * 2, none⟩) 1 (cc - x)) W := by
  rw [run_sliceAt_slice _ _ _ _ _ _ Tryz.underlying27]
  rw [run_slice_lh W 27 (some ⟨g, 0, none⟩) n cc Tryz.underlying27 .i64 .i64 x (x + 1) (by omega) (by omega) (by omega)]
  have hs : (sizeOf (Tryz.prog.elem 27)).run Tryz.prog W = .ok 2 W := by
    obtain ⟨i0, hi, hz0, hz1, hz2⟩ := info_parts infoP
    have he : Tryz.prog.elem 27 = 47 := by kernel_rfl
    rw [he]
    simp [sizeOf, go_sem]
    rfl
  rw [hs]
  have e2 : (x : Int).toNat = x := by omega
  have e3 : cc ≠ x := by omega
  have e4 : ((x : Int) + 1).toNat - x = 1 := by omega
  simp only [Result.andThen, sliced, e2, if_neg e3, Option.map_some]
  rw [addr_addD, e4]
set_option maxRecDepth 100000 in
set_option maxHeartbeats 4000000 in
set_option linter.unusedSimpArgs false in
theorem i_dis7 (g c : Nat) (rs : List RG) (w : World) (hR : RowR w g rs.length rs) (hn : rs.length ≤ 1048576) (hok : ∀ i, rgOk (rs.getD i rg0)) (hg : g < w.heap.size) (hA : areB rs = true) :
    Calls Tryz.prog 11 #[.slice (some ⟨g, 0, none⟩) rs.length c] w fun e w' => ∃ v, e = .returned (.tuple #[v, .int .i64 0]) ∧ OwnP w' w.heap.size v (uni (dis (spn rs) rs.length)) ∧ Below w.heap.size w w' := by
  have con := i_AreReigns g c rs w hR hn hok
  rw [hA] at con
  have hn30 := (are_open hA).1
  have con2 := fun W (h : RowR W g rs.length rs) => i_spns g c rs W h (by omega)
  have hlen := dis_len (spn rs) rs.length hn30
  have con3 := fun (W : World) (b : Nat) (v : Value) (h : OwnP W b v (dis (spn rs) rs.length)) => i_united W h (by omega) (fun s hs => (dis_ok hA s hs).1) (fun s hs => (dis_ok hA s hs).2)
  have hul := dis_uni_len hA
  have con4 := fun (W : World) (b : Nat) (v : Value) (h : OwnP W b v (uni (dis (spn rs) rs.length))) => i_lim W h (by omega)
  have hSn := spn_len rs
  obtain ⟨n, hnn⟩ : ∃ n, rs.length = n := ⟨_, rfl⟩
  rw [hnn] at con con2 con3 con4 hSn hn30 hlen hR ⊢
  clear hnn
  obtain ⟨S, hS⟩ : ∃ S, spn rs = S := ⟨_, rfl⟩
  rw [hS] at con2 con3 con4 hSn hlen ⊢
  have HL := Lib.hid (fun i => dis_len S i)
  have HJ := Lib.hid (fun i k => inn_len S i k)
  have HD0 := Lib.hid (show dis S 0 = [] from rfl)
  have HDS := Lib.hid (show ∀ i, dis S (i + 1) = dis S i ++ inn S i i from fun _ => rfl)
  have HIS := Lib.hid (show ∀ i j, inn S i (j + 1) = inn S i j ++ met1 (S.getD i sp0) [S.getD j sp0] from fun i j => by rw [met1_one]; rfl)
  have HML := Lib.hid (fun i j => met1_len (S.getD i sp0) [S.getD j sp0])
  have HMT := Lib.hid (fun (b1 o1 c1 : Nat) (a b : Sp) (A : Option Addr) (c : Nat) (W : World) h1 a0 a1 hR => i_met b1 o1 c1 a A c [b] W h1 a0 a1 hR (by simp))
  obtain ⟨U, hU⟩ : ∃ U, uni (dis S n) = U := ⟨_, rfl⟩
  rw [hU] at con3 con4 ⊢
  have CON := Lib.hid con
  have CON2 := Lib.hid con2
  have CON3 := Lib.hid con3
  have CON4 := Lib.hid con4
  have HR := Lib.hid hR
  clear con con2 con3 con4 hul hlen hS hU hR hA hn hok
  go_enter Tryz.func11, Tryz.ntmps11
  go_wp2_with fail
  refine CON.out.mono ?_
  rintro e w1 ⟨rfl, hb⟩
  have hA1 := below_alloc w1 (.cells #[] 47)
  have hR1 := Lib.hid ((HR.out.below hb hg).below hA1 (by have := hb.size; omega))
  have V0 := OwnP.lit0 w1
  have L1 := hb.trans (hA1.mono hb.size)
  have hb1 := hb.size
  clear hA1 CON HR hb
  go_wp2_with fail
  refine (CON2.out _ hR1.out).mono ?_
  rintro e w2 ⟨v1, rfl, P1, hb2⟩
  have V0 := V0.below hb2
  have L2 := below_step L1 hb2
  have hne0 := own_neP (OwnP.lit0 w1) P1 (Nat.le_refl _)
  have hz2 : w1.heap.size + 1 ≤ w2.heap.size := by have := hb2.size; simpa using this
  clear L1 hb2 CON2 hR1
  obtain ⟨-, A, cc, rfl, -⟩ := P1.opened
  rw [hSn] at P1 hne0 ⊢
  go_wp2_with fail
  go_loopw [4, 16] (fun o i wr => ∃ k : Nat, k ≤ n ∧ i = .int .i64 k ∧ OwnP wr w1.heap.size o (dis S k) ∧ OwnP wr (w1.heap.size + 1) (.slice A n cc) S ∧ ((Value.slice A n cc).ownBlock = none ∨ (Value.slice A n cc).ownBlock ≠ o.ownBlock) ∧ Below w.heap.size w wr) (fun _ i _ => n - (intOf i).toNat)
  case atStart => exact ⟨0, by omega, rfl, V0, by simpa using P1, by rcases hne0 with h | h; (cases h); exact .inr (fun e => h e.symm), L2⟩
  case round =>
    clear V0 P1 hne0 L2
    obtain ⟨i, hi, rfl, V, P1, hne, L⟩ := hrel
    by_cases hlt : i < n
    · have hil := HL.out i (by omega)
      have HDD := Lib.hid (HDS.out i)
      have HB0 := Lib.hid (show dis S i ++ inn S i 0 = dis S i from by simp [inn])
      obtain ⟨B, hB⟩ : ∃ B, dis S i = B := ⟨_, rfl⟩
      rw [hB] at V hil HDD HB0
      clear hB
      go_wp2_with fail
      go_loopw [4, 20] (fun o q wr => ∃ j : Nat, j ≤ i ∧ q = .int .i64 j ∧ OwnP wr w1.heap.size o (B ++ inn S i j) ∧ OwnP wr (w1.heap.size + 1) (.slice A n cc) S ∧ ((Value.slice A n cc).ownBlock = none ∨ (Value.slice A n cc).ownBlock ≠ o.ownBlock) ∧ Below w.heap.size w wr) (fun _ q _ => i - (intOf q).toNat)
      case atStart => exact ⟨0, by omega, rfl, by rw [HB0.out]; exact V, P1, hne, L⟩
      case round =>
        clear V P1 hne L
        obtain ⟨j, hj, rfl, V, P1, hne, L⟩ := hrel
        have hw := L.size
        have hb0 : w1.heap.size ≤ wr.heap.size := by
          obtain ⟨-, PP⟩ := P1.at_
          obtain ⟨g1, -, ha, hb, -⟩ := PP (by omega)
          omega
        by_cases hji : j < i
        · as_aux_lemma =>
            obtain ⟨-, PP⟩ := P1.at_
            obtain ⟨g1, rfl, hg0, hg1, hc1, -⟩ := PP (by omega)
            obtain ⟨hcn, hcm⟩ := P1.capOf
            obtain ⟨a0, a1⟩ := hc1 i (by omega)
            obtain ⟨b0, b1⟩ := hc1 j (by omega)
            have hIn : InP wr (some ⟨g1, j * 2, none⟩) [S.getD j sp0] := fun _ => ⟨g1, j * 2, rfl, hg1, fun q hq => by
              obtain rfl : q = 0 := by simpa using hq
              exact ⟨by simpa using b0, by simpa using b1⟩⟩
            have hjl := HJ.out i j
            have hml : (met1 (S.getD i sp0) [S.getD j sp0]).length ≤ 1 := HML.out i j
            have HS := Lib.hid (HIS.out i j)
            have MT := Lib.hid (HMT.out g1 (i * 2) (cc - i) (S.getD i sp0) (S.getD j sp0) (some ⟨g1, j * 2, none⟩))
            have r1 := Lib.hid (run_sl g1 i n cc (by omega) hcn)
            have r2 := Lib.hid (run_sl g1 j n cc (by omega) hcn)
            have w1' : IntKind.i64.wrap ((i : Int) + 1) = (i : Int) + 1 := IntWalk.i64_in _ (by omega)
            have w2' : IntKind.i64.wrap ((j : Int) + 1) = (j : Int) + 1 := IntWalk.i64_in _ (by omega)
            obtain ⟨mm, hmm⟩ : ∃ mm, met1 (S.getD i sp0) [S.getD j sp0] = mm := ⟨_, rfl⟩
            rw [hmm] at hml MT HS
            obtain ⟨nn, hnn⟩ : ∃ nn, inn S i j = nn := ⟨_, rfl⟩
            rw [hnn] at hjl V HS
            have hbl : (B ++ nn).length = B.length + nn.length := List.length_append
            have A0 := Lib.hid a0
            have A1 := Lib.hid a1
            have HIn := Lib.hid hIn
            have HNE := Lib.hid hne
            clear hc1 PP b0 b1 hmm hnn a0 a1 hIn hne
            go_wp2_with fail
            refine wp_region_any (by kernel_rfl) ?_
            change wpAny _ _ _ _ _ _ _ (World.drew _)
            refine wpAny_take (i := 0) (v := _) rfl (by kernel_rfl) (by kernel_rfl) (by kernel_rfl) (fun _ _ _ h => h) (Or.inl ⟨by kernel_rfl, fun W => by first | rfl | go_simp⟩) ?_
            simp only [Act.put, List.getElem_toArray, List.getElem_cons_succ, List.getElem_cons_zero, List.setIfInBounds_toArray, List.set_cons_succ, List.set_cons_zero]
            refine wpAny_take (i := 1) (v := .slice (some ⟨g1, 0, none⟩) n cc) rfl (by kernel_rfl) (by kernel_rfl) (by kernel_rfl) (fun _ _ _ h => h) (Or.inl ⟨by kernel_rfl, fun W => by first | rfl | go_simp⟩) ?_
            simp only [Act.put, List.getElem_toArray, List.getElem_cons_succ, List.getElem_cons_zero, List.setIfInBounds_toArray, List.set_cons_succ, List.set_cons_zero]
            refine wpAny_take (i := 2) (v := .int .i64 i) rfl (by kernel_rfl) (by kernel_rfl) (by kernel_rfl) (fun _ _ _ h => h) (Or.inl ⟨by kernel_rfl, fun W => by first | rfl | go_simp⟩) ?_
            simp only [Act.put, List.getElem_toArray, List.getElem_cons_succ, List.getElem_cons_zero, List.setIfInBounds_toArray, List.set_cons_succ, List.set_cons_zero]
            refine wpAny_take (i := 3) (v := .int .i64 i) rfl (by kernel_rfl) (by kernel_rfl) (by kernel_rfl) (fun _ _ _ h => h) (Or.inl ⟨by kernel_rfl, fun W => by first | rfl | go_simp⟩) ?_
            simp only [Act.put, List.getElem_toArray, List.getElem_cons_succ, List.getElem_cons_zero, List.setIfInBounds_toArray, List.set_cons_succ, List.set_cons_zero]
            refine wpAny_take (i := 4) (v := .int .i64 ((i : Int) + 1)) rfl (by kernel_rfl) (by kernel_rfl) (by kernel_rfl) (fun _ _ _ h => h) (Or.inl ⟨by kernel_rfl, fun W => by first | rfl | go_simp⟩) ?_
            simp only [Act.put, List.getElem_toArray, List.getElem_cons_succ, List.getElem_cons_zero, List.setIfInBounds_toArray, List.set_cons_succ, List.set_cons_zero]
            refine wpAny_take (i := 5) (v := .slice (some ⟨g1, i * 2, none⟩) 1 (cc - i)) rfl (by kernel_rfl) (by kernel_rfl) (by kernel_rfl) (fun _ _ _ h => h) (Or.inl ⟨by kernel_rfl, fun W => by (show Sem.run _ (Instr.sliceAt 27 (.slice (some ⟨g1, 0, none⟩) n cc) (some (.int .i64 i)) (some (.int .i64 ((i : Int) + 1))) none >>= fun a => pure (Next.value a)) W = _; rw [Sem.run_bind, r1.out W]; rfl)⟩) ?_
            simp only [Act.put, List.getElem_toArray, List.getElem_cons_succ, List.getElem_cons_zero, List.setIfInBounds_toArray, List.set_cons_succ, List.set_cons_zero]
            refine wpAny_take (i := 6) (v := .slice (some ⟨g1, 0, none⟩) n cc) rfl (by kernel_rfl) (by kernel_rfl) (by kernel_rfl) (fun _ _ _ h => h) (Or.inl ⟨by kernel_rfl, fun W => by first | rfl | go_simp⟩) ?_
            simp only [Act.put, List.getElem_toArray, List.getElem_cons_succ, List.getElem_cons_zero, List.setIfInBounds_toArray, List.set_cons_succ, List.set_cons_zero]
            refine wpAny_take (i := 7) (v := .int .i64 j) rfl (by kernel_rfl) (by kernel_rfl) (by kernel_rfl) (fun _ _ _ h => h) (Or.inl ⟨by kernel_rfl, fun W => by first | rfl | go_simp⟩) ?_
            simp only [Act.put, List.getElem_toArray, List.getElem_cons_succ, List.getElem_cons_zero, List.setIfInBounds_toArray, List.set_cons_succ, List.set_cons_zero]
            refine wpAny_take (i := 8) (v := .int .i64 j) rfl (by kernel_rfl) (by kernel_rfl) (by kernel_rfl) (fun _ _ _ h => h) (Or.inl ⟨by kernel_rfl, fun W => by first | rfl | go_simp⟩) ?_
            simp only [Act.put, List.getElem_toArray, List.getElem_cons_succ, List.getElem_cons_zero, List.setIfInBounds_toArray, List.set_cons_succ, List.set_cons_zero]
            refine wpAny_take (i := 9) (v := .int .i64 ((j : Int) + 1)) rfl (by kernel_rfl) (by kernel_rfl) (by kernel_rfl) (fun _ _ _ h => h) (Or.inl ⟨by kernel_rfl, fun W => by first | rfl | go_simp⟩) ?_
            simp only [Act.put, List.getElem_toArray, List.getElem_cons_succ, List.getElem_cons_zero, List.setIfInBounds_toArray, List.set_cons_succ, List.set_cons_zero]
            refine wpAny_take (i := 10) (v := .slice (some ⟨g1, j * 2, none⟩) 1 (cc - j)) rfl (by kernel_rfl) (by kernel_rfl) (by kernel_rfl) (fun _ _ _ h => h) (Or.inl ⟨by kernel_rfl, fun W => by (show Sem.run _ (Instr.sliceAt 27 (.slice (some ⟨g1, 0, none⟩) n cc) (some (.int .i64 j)) (some (.int .i64 ((j : Int) + 1))) none >>= fun a => pure (Next.value a)) W = _; rw [Sem.run_bind, r2.out W]; rfl)⟩) ?_
            simp only [Act.put, List.getElem_toArray, List.getElem_cons_succ, List.getElem_cons_zero, List.setIfInBounds_toArray, List.set_cons_succ, List.set_cons_zero]
            refine wpAny_ready (rs := [11]) (by kernel_rfl) (by simp) ?_
            refine AllReady.cons rfl (fun K hK => ?_) AllReady.nil
            go_simp
            go_wp2_with (go_at_call 75; refine (MT.out _ wr.drew (by exact hg1) (by exact A0.out) (by exact A1.out) (by exact HIn.out)).mono ?_; rintro e w3 ⟨v3, rfl, V3, L3, hn3⟩)
            refine wpAny_ready (rs := [12]) (by kernel_rfl) (by simp) ?_
            refine AllReady.cons rfl (fun K hK => ?_) AllReady.nil
            have V4 := V.drew.below L3
            refine step_appL rfl _ _ rfl _ _ _ _ ?_ V4 _ _ _ ?_ V3 hn3 (by omega) (by have := L3.size; have : wr.drew.heap.size = wr.heap.size := rfl; omega) ?_
            · rfl
            · rfl
            intro v5 w5 V5 hg5 hb5
            refine hK _ _ ?_
            clear hK K
            refine wpAny_take (i := 13) (v := v5) rfl (by kernel_rfl) (by kernel_rfl) (by kernel_rfl) (fun _ _ _ h => h) (Or.inl ⟨by kernel_rfl, fun W => by first | rfl | go_simp⟩) ?_
            simp only [Act.put, List.getElem_toArray, List.getElem_cons_succ, List.getElem_cons_zero, List.setIfInBounds_toArray, List.set_cons_succ, List.set_cons_zero]
            refine wpAny_done (by kernel_rfl) ?_ _
            try simp only [List.getElem_toArray, List.getElem_cons_succ, List.getElem_cons_zero, List.setIfInBounds_toArray, List.set_cons_succ, List.set_cons_zero]
            have hz3 := L3.size
            have hP : OwnP w5 (w1.heap.size + 1) (.slice (some ⟨g1, 0, none⟩) n cc) S := (P1.drew.below L3).kept hg5 HNE.out
            have hne5 : (Value.slice (some ⟨g1, 0, none⟩) n cc).ownBlock = none ∨ (Value.slice (some ⟨g1, 0, none⟩) n cc).ownBlock ≠ v5.ownBlock := by
              rcases hb5 with e | e
              · rw [e]; exact HNE.out
              · refine .inr fun h => ?_
                rw [e] at h
                have h' : g1 = w3.heap.size := by simpa [Value.ownBlock] using h
                have h3 : wr.drew.heap.size = wr.heap.size := rfl
                omega
            have L5 : Below w.heap.size w w5 := (V4.mono hb1).below_grown (below_step L (below_undrewD L3)) hg5 (by have h3 : wr.drew.heap.size = wr.heap.size := rfl; omega)
            go_wp2_with fail
            go_roundw
            case rel => exact ⟨j + 1, by omega, by go_num, V5.to (by rw [HS.out, List.append_assoc]), hP, hne5, L5⟩
            case measure => first | (simp [intOf]; done) | (simp [intOf]; omega)
        · obtain rfl : j = i := by omega
          go_wp2_with fail
          go_roundw
          case rel => exact ⟨j + 1, by omega, by go_num, by rw [HDD.out]; exact V, P1, hne, L⟩
          case measure => first | (simp [intOf]; done) | (simp [intOf]; omega)
    · obtain rfl : i = n := by omega
      go_wp2_with fail
      refine (CON3.out _ _ _ V).mono ?_
      rintro e w4 ⟨v4, rfl, o4, hb4⟩
      go_wp2_with fail
      refine (CON4.out _ _ _ o4).mono ?_
      rintro e w5 ⟨rfl, rfl⟩
      go_wp2_with fail
      go_ret2
      exact ⟨_, rfl, o4.mono L.size, below_step L hb4⟩
theorem i_DisputedDays (g c : Nat) (rs : List RG) (w : World) (hR : RowR w g rs.length rs) (hn : rs.length ≤ 1048576) (hok : ∀ i, rgOk (rs.getD i rg0)) (hg : g < w.heap.size) :
    Calls Tryz.prog 11 #[.slice (some ⟨g, 0, none⟩) rs.length c] w fun e w' => ∃ v, e = .returned (.tuple #[v, .int .i64 (ddF rs).2]) ∧ OwnP w' w.heap.size v (ddF rs).1 ∧ Below w.heap.size w w' := by
  unfold ddF
  cases h1 : areB rs with
  | false =>
    have con := i_AreReigns g c rs w hR hn hok
    rw [h1] at con
    rw [if_neg (by decide)]
    have CON := Lib.hid con
    clear con
    go_enter Tryz.func11, Tryz.ntmps11
    go_wp2_with fail
    refine CON.out.mono ?_
    rintro e w1 ⟨rfl, hb⟩
    go_wp2_with fail
    go_ret2
    exact ⟨_, rfl, OwnP.nil _ _, hb⟩
  | true =>
    rw [if_pos rfl]
    exact i_dis7 g c rs w hR hn hok hg h1
theorem s_DisputedDays (g c : Nat) (rs : List RG) (w : World) (hR : RowR w g rs.length rs) (hn : rs.length ≤ 1048576) (hok : ∀ i, rgOk (rs.getD i rg0)) (hg : g < w.heap.size) :
    Calls Tryz.prog 12 #[.slice (some ⟨g, 0, none⟩) rs.length c] w fun e w' => ∃ v, e = .returned (.tuple #[v, .int .i64 (ddF rs).2]) ∧ OwnP w' w.heap.size v (ddF rs).1 ∧ Below w.heap.size w w' := by
  unfold ddF
  have con := s_AreReigns g c rs w hR hn hok
  cases h1 : areB rs with
  | false =>
    rw [h1] at con
    rw [if_neg (by decide)]
    have CON := Lib.hid con
    clear con
    go_enter Tryz.func12, Tryz.ntmps12
    go_wp2_with fail
    refine CON.out.mono ?_
    rintro e w1 ⟨rfl, hb⟩
    go_wp2_with fail
    go_ret2
    exact ⟨_, rfl, OwnP.nil _ _, hb⟩
  | true =>
    rw [h1] at con
    rw [if_pos rfl]
    have con2 := fun W h => s_times2 g c rs W h h1
    obtain ⟨U, hU⟩ : ∃ U, uni (dis (spn rs) rs.length) = U := ⟨_, rfl⟩
    rw [hU] at con2 ⊢
    have CON := Lib.hid con
    have CON2 := Lib.hid con2
    have HR := Lib.hid hR
    clear con con2 hU h1 hR
    go_enter Tryz.func12, Tryz.ntmps12
    go_wp2_with fail
    refine CON.out.mono ?_
    rintro e w1 ⟨rfl, hb⟩
    have hR1 := HR.out.below hb hg
    go_wp2_with fail
    refine (CON2.out _ hR1).mono ?_
    rintro e w2 ⟨v, rfl, o, hb2⟩
    go_wp2_with fail
    go_ret2
    exact ⟨_, rfl, o.mono hb.size, below_step hb hb2⟩
end Go.Proofs.YtmpgokijlikddaaGreatDoor
