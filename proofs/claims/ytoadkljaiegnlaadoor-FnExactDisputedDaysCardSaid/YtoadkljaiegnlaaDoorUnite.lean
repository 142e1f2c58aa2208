/- The program's united: spans cloned, put in order, joined. Conditions: how the slice lies; not too many spans; their bounds. -/
import Derived.Test.YtoadkljaiegnlaaDoorSortP
import Derived.IntWalk
import Derived.Lib.SliceRun
import Derived.Maps.AppendAt
namespace Go.Proofs.YtoadkljaiegnlaaDoor
open Go.RowKit
theorem addr_add (g j : Nat) : (⟨g, 0, none⟩ : Addr).add j = ⟨g, j, none⟩ := by unfold Addr.add; split <;> simp_all
/-- append(out, list..) where out and list are rows of the call's own -/
theorem wpList_appL {ops : Array Oper} {rest : List Oper} {o : Oper} {a : Act} {Q : Exit → Act → World → Prop} (hgd : o.guard = none) (s x : Operand)
    (ho : o.op = .call { callee := .builtin .append, args := #[s, x], argTypes := #[30, 30] }) (wr : World) (base : Nat) (v : Value) (l : List Sp)
    (hs : a.eval s = v) (hown : OwnP wr base v l) (b2 : Nat) (v2 : Value) (m : List Sp) (hx : a.eval x = v2) (V2 : OwnP wr b2 v2 m) (hne : v2 ≠ .slice none 0 0) (hlen : l.length + m.length ≤ 10000000) (hbase : base ≤ wr.heap.size)
    (h : ∀ v' w', OwnP w' base v' (l ++ m) → wr.grownBy w' v.ownBlock → wpList Tryd.prog ops Q rest (a.put o.dst v') w') :
    wpList Tryd.prog ops Q (o :: rest) a wr := by
  obtain ⟨i0, hi, hz0, hz1, hz2⟩ := info_parts infoP
  rcases V2.2 with ⟨e, _⟩ | ⟨g, cap, cur, rfl, _, _, _, _, _, _⟩
  · exact absurd e hne
  refine wpList_append_own _ hgd s x 30 ho base 62 i0 (.agg #[.int .i64 0, .int .i64 0]) 2 16 Tryd.underlying30 hi hz0 hz1 hz2 rfl (by decide) v l.length (flatP l) hs hown
    ⟨g, 0, none⟩ m.length cap (flatP m) hx (flatP_len m) ?_ (flatP_one m) (by unfold maxLen; omega) (by omega) hbase ?_
  · intro j u hu
    have hj : j < (flatP m).length := (List.getElem?_eq_some_iff.1 hu).1
    rw [flatP_len] at hj
    have := World.ownsRow.cellAt (n := m.length) (size := 2) V2 j hj
    rw [addr_add]
    exact this.trans hu
  · intro v' w' hown' hgr _
    refine h v' w' ?_ hgr
    unfold OwnP
    rw [List.length_append, flatP_app]
    exact hown'
set_option maxRecDepth 100000 in
theorem i_clone {b : Nat} {v : Value} {l : List Sp} (w : World) (h : OwnP w b v l) (hl : l.length ≤ 100000) :
    Calls Tryd.prog 81 #[v] w fun e w' => ∃ v', e = .returned v' ∧ OwnP w' w.heap.size v' l ∧ Below w.heap.size w w' := by
  have h0 := h
  rcases h.2 with ⟨rfl, hn⟩ | ⟨g, cap, cur, hv, _, _, _, _, _, _⟩
  · obtain rfl : l = [] := List.length_eq_zero_iff.1 hn
    have hnil := fun W => Lib.run_eql_slice_nil W 30 _ none 0 0 0 0 Tryd.underlying30
    simp only [Option.isNone_none] at hnil
    go_enter Tryd.func81, Tryd.ntmps81
    go_wp2_with fail
    go_ret
    exact ⟨_, rfl, OwnP.nil _ _, Below.refl _ _⟩
  · have hne : v ≠ .slice none 0 0 := by rw [hv]; simp
    have V := h.alloc (.cells #[] 62)
    have hl' : ([] : List Sp).length + l.length ≤ 10000000 := by simp; omega
    subst hv
    have hnil := fun W => Lib.run_eql_slice_nil W 30 _ (some ⟨g, 0, none⟩) l.length cap 0 0 Tryd.underlying30
    simp only [Option.isNone_some] at hnil
    obtain ⟨n, hn⟩ : ∃ n, l.length = n := ⟨_, rfl⟩
    rw [hn] at V hnil hne ⊢
    clear h h0 hn
    go_enter Tryd.func81, Tryd.ntmps81
    go_wp2_with (at_builtin; refine Hid.out ?_)
    refine Lib.hid ?_
    refine wpList_appL rfl _ _ rfl _ w.heap.size (.slice (some ⟨w.heap.size, 0, none⟩) 0 0) [] ?_ (OwnP.lit0 w) _ (.slice (some ⟨g, 0, none⟩) n cap) l ?_ V hne hl' (by simp) ?_
    · rfl
    · rfl
    intro v' w' V2 hg2
    go_wp2_with fail
    go_ret
    exact ⟨_, rfl, by simpa using V2, (OwnP.lit0 w).below_grown (below_alloc w _) hg2 (by simp)⟩
set_option maxRecDepth 100000 in
set_option maxHeartbeats 4000000 in
theorem i_united {b : Nat} {v : Value} {l : List Sp} (w : World) (h : OwnP w b v l) (hl : l.length ≤ 1000) (hb : ∀ s ∈ l, spB s) (hle : ∀ s ∈ l, s.1 ≤ s.2) :
    Calls Tryd.prog 46 #[v] w fun e w' => ∃ v', e = .returned v' ∧ OwnP w' w.heap.size v' (uni l) ∧ Below w.heap.size w w' := by
  have CL := Lib.hid (i_clone w h (by omega))
  have SO := Lib.hid (fun (W : World) (u : Value) (B : Nat) (hU : OwnP W B u l) => i_sort W hU (by omega))
  have HB := Lib.hid hb
  have HLE := Lib.hid hle
  clear h hb hle
  go_enter Tryd.func46, Tryd.ntmps46
  go_wp2_with fail
  refine CL.out.mono ?_
  rintro e w1 ⟨v1, rfl, V1, L1⟩
  clear CL
  go_wp2_with fail
  refine (SO.out _ _ _ V1).mono ?_
  rintro e w2 ⟨rfl, T, hperm, hpair, V, hg⟩
  have L := V1.below_grown L1 hg L1.size
  have hT : T.length = l.length := hperm.length_eq
  have hmem : ∀ s, s ∈ T ↔ s ∈ l := fun s => hperm.mem_iff
  have hbd : ∀ s ∈ T, spB s := fun s hs => HB.out s ((hmem s).1 hs)
  have hU : mrg T = uni l := mrg_uni HLE.out hmem hpair
  have hA := mgr_all T
  rw [hU] at hA
  clear SO hperm hpair hmem HLE HB V1 L1 hg
  obtain ⟨k, hk⟩ : ∃ k, T.length = k := ⟨_, rfl⟩
  rw [← hT, hk] at hl
  clear hT
  have HBD := Lib.hid (fun (j : Nat) => mgr_bd hbd j)
  have HTB := Lib.hid (fun (j : Nat) (hj : j < k) => hbd _ (getD_mem (l := T) (j := j) (by omega)))
  have HNX := Lib.hid (fun (j : Nat) (hj : j < k) => mgr_succ T j (by omega))
  have HML := Lib.hid (fun j => mgr_len T j)
  rw [hk] at hA
  have HU := Lib.hid hA.symm
  have hLs := L.size
  obtain ⟨_, A1, c1, rfl, P1⟩ := V.opened
  rw [hk] at P1 ⊢
  have HP1 := Lib.hid P1
  clear P1 hA hbd V hk hU
  go_wp2_with fail
  go_loopw [4, 15] (fun o i wr' => ∃ j : Nat, j ≤ k ∧ i = .int .i64 j ∧ OwnP wr' w2.heap.size o (mgr T j).reverse ∧ Below w2.heap.size w2 wr') (fun _ i _ => k - (intOf i).toNat)
  case atStart => exact ⟨0, by omega, rfl, OwnP.lit0 w2, below_alloc _ _⟩
  case round =>
    obtain ⟨j, hj, rfl, V, L2⟩ := hrel
    have hL2 := L2.size
    by_cases hlt : j < k
    · obtain ⟨g1, rfl, _, hg1, hc1, _⟩ := HP1.out (by omega)
      obtain ⟨d0, d1⟩ := hc1 j hlt
      replace d0 := (L2.cell (p := ⟨g1, j * 2, none⟩) hg1).trans d0
      replace d1 := (L2.cell (p := ⟨g1, j * 2 + 1, none⟩) hg1).trans d1
      obtain ⟨s0, s1, s2, s3⟩ := HTB.out j hlt
      have hnext := HNX.out j hlt
      have hml := HML.out j
      have hbd := HBD.out j
      have hg1w := Nat.lt_of_lt_of_le hg1 hL2
      obtain ⟨s, hs⟩ : ∃ s, T.getD j sp0 = s := ⟨_, rfl⟩
      rw [hs] at d0 d1 s0 s1 s2 s3 hnext
      obtain ⟨x, y⟩ := s
      dsimp only at d0 d1 s0 s1 s2 s3
      obtain ⟨D, hD⟩ : ∃ D, mgr T j = D := ⟨_, rfl⟩
      rw [hD] at V hnext hml hbd
      clear hD hc1 hs
      replace V := V.alloc (.cells #[.int .i64 x, .int .i64 y] 62)
      have X := Blk.new wr 62 #[.int .i64 x, .int .i64 y]
      replace L2 := below_more L2 hL2 (.cells #[.int .i64 x, .int .i64 y] 62)
      have hL3 := L2.size
      cases D with
      | nil =>
        have HN := Lib.hid hnext; clear hnext hbd
        obtain ⟨_, A2, c2, rfl, _⟩ := V.opened
        have hn0 : ([] : List Sp).reverse.length = 0 := rfl
        rw [hn0] at V ⊢
        have x0 := X.c0
        have x1 := X.c1
        go_wp2_with fail
        go_quiet (fail)
        go_wp2_with (at_builtin; refine wpList_appP rfl _ _ rfl _ _ _ _ _ _ rfl (V.drewN _) _ (by simp) rfl (by simp) hL3 ?_; intro v2 w3 V2 hg2)
        go_roundw
        case rel => exact ⟨j + 1, by omega, by go_num, by rw [HN.out]; exact V2, (V.drewN _).below_grown (below_drewN L2 _) hg2 hL3⟩
        case measure => simp [intOf]; omega
      | cons t r =>
        obtain ⟨t0, t1, t2, t3⟩ := hbd t (List.mem_cons_self ..)
        clear hbd
        have hr1 : (t :: r).reverse.length = r.length + 1 := by simp
        obtain ⟨_, A2, c2, rfl, P⟩ := V.opened
        rw [hr1] at V P ⊢
        obtain ⟨g, rfl, hg0, hg2, hcs, hfr⟩ := P (by omega)
        obtain ⟨_, e1⟩ := hcs r.length (by omega)
        rw [last_get] at e1
        have hf := hfr (r.length * 2 + 1)
        clear hcs hfr P
        simp only [List.length_cons] at hml
        have hsub : IntKind.i64.wrap (((r.length + 1 : Nat) : Int) - 1) = (r.length : Int) := by rw [IntWalk.i64_in _ (by omega)]; omega
        have hset := fun q u => (V.drewN q).set1 hr1.symm r.length (by omega) u
        rw [last_get] at hset
        simp only [last_set] at hset
        obtain ⟨tf, tt⟩ := t
        dsimp only at t0 t1 t2 t3 e1 hset
        have x0 := X.c0
        have x1 := X.c1
        by_cases hc : x ≤ tt + 1
        · rw [mst_yes (show ((x, y) : Sp).1 ≤ ((tf, tt) : Sp).2 + 1 from hc)] at hnext
          dsimp only at hnext
          have hme : (if tt < y then y else tt) = max tt y := by split <;> omega
          have HN := Lib.hid hnext
          clear hnext
          go_wp2_with fail
          go_quiet (fail)
          go_wp2_with fail
          go_region
          have hg3 := hset (nq + 1) (max tt y)
          have L3 := (V.drewN (nq + 1)).below_grown (below_drewN L2 _) hg3.2 hL3
          go_wp2_with fail
          go_roundw
          case rel => exact ⟨j + 1, by omega, by go_num, by rw [HN.out]; exact hg3.1, L3⟩
          case measure => simp [intOf]; omega
        · rw [mst_no (show ¬ ((x, y) : Sp).1 ≤ ((tf, tt) : Sp).2 + 1 from hc)] at hnext
          have HN := Lib.hid hnext
          clear hnext hset
          have hc' : decide (x ≤ tt + 1) = false := by simpa using hc
          have hlt3 : tt + 1 < x := by omega
          clear hc
          go_wp2_with fail
          go_quiet (fail)
          go_wp2_with (at_builtin; refine wpList_appP rfl _ _ rfl _ _ _ _ _ _ rfl (V.drewN _) _ (by simp) rfl (by simp; omega) hL3 ?_; intro v2 w3 V2 hg2)
          go_roundw
          case rel => exact ⟨j + 1, by omega, by go_num, by rw [HN.out, List.reverse_cons]; exact V2, (V.drewN _).below_grown (below_drewN L2 _) hg2 hL3⟩
          case measure => simp [intOf]; omega
    · obtain rfl : j = k := by omega
      go_wp2_with fail
      go_ret
      exact ⟨_, rfl, by rw [HU.out]; exact V.mono hLs, L.trans (L2.mono hLs)⟩
end Go.Proofs.YtoadkljaiegnlaaDoor
