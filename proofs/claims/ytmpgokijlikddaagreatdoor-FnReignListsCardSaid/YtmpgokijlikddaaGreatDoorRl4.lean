/- Texts put together: SortP Unite. No condition beyond those that stand in each. -/
import Derived.Test.YtmpgokijlikddaaGreatDoorRl1
import Derived.Test.YtmpgokijlikddaaGreatDoorRl2
import Derived.Test.YtmpgokijlikddaaGreatDoorShelf
import Derived.Shelf.SlSortCmp.WholeK
import Derived.Shelf.SlSortCmp.NoneTotal
import Derived.IntWalk
import Derived.Lib.SliceRun
import Derived.Maps.AppendAt
/- Rows of spans put in order by slices.SortFunc. Conditions: how the slice lies. -/
namespace Go.Proofs.YtmpgokijlikddaaGreatDoor
open Go.RowKit Go.Sort Go.Shelf Go.Lib
def encSp (s : Sp) : List Value := [.int .i64 s.1, .int .i64 s.2]
theorem flatK_eq (l : List Sp) : flatK encSp 2 l.toArray = (flatP l).toArray := by
  refine ext_get! (by simp [flatP_len]) fun t ht => ?_
  have ht' : t < l.toArray.size * 2 := by simpa using ht
  rw [get_flatK _ _ _ _ ht']
  have hj : t / 2 < l.length := by simp at ht'; omega
  have e0 : (l.toArray)[t / 2]! = l.getD (t / 2) sp0 := by
    rw [getElem!_pos _ _ (by simpa using hj)]
    simp [hj]
  rw [e0]
  rcases Nat.mod_two_eq_zero_or_one t with h | h
  · have e : t / 2 * 2 = t := by omega
    have f := flatP_0 l (t / 2) hj
    rw [e] at f
    obtain ⟨ht2, f⟩ := List.getElem?_eq_some_iff.1 f
    have g : (flatP l).toArray[t]! = .int .i64 (l.getD (t / 2) sp0).1 := by
      rw [getElem!_pos (flatP l).toArray t (by simpa using ht2), List.getElem_toArray, f]
    rw [g, h]
    rfl
  · have e : t / 2 * 2 + 1 = t := by omega
    have f := flatP_1 l (t / 2) hj
    rw [e] at f
    obtain ⟨ht2, f⟩ := List.getElem?_eq_some_iff.1 f
    have g : (flatP l).toArray[t]! = .int .i64 (l.getD (t / 2) sp0).2 := by
      rw [getElem!_pos (flatP l).toArray t (by simpa using ht2), List.getElem_toArray, f]
    rw [g, h]
    rfl
theorem holdsP {w : World} {g : Nat} {cur : Array Value} {e : TypeId} {l : List Sp} (hb : w.heap[g]? = some (.cells cur e (0, 0))) (ht : cur.toList.take (l.length * 2) = flatP l) : HoldsK encSp 2 w g 0 l.toArray := by
  unfold HoldsK
  rw [flatK_eq]
  intro j hj
  have hj' : j < l.length * 2 := by simpa [flatP_len] using hj
  refine ⟨?_, by simp [World.frozen?, hb]⟩
  have h1 : (cur.toList.take (l.length * 2))[j]? = (flatP l)[j]? := by rw [ht]
  rw [List.getElem?_take_of_lt hj'] at h1
  simp only [World.cell?, hb, Nat.zero_add]
  simp only [Option.isSome_none, Bool.false_eq_true, if_false]
  rw [← Array.getElem?_toList, h1]
  have hj2 : j < (flatP l).length := by rw [flatP_len]; exact hj'
  simp [hj2]
theorem heap_sortedP {w : World} {g n : Nat} {os : Array Obj} {cur : Array Value} {e : TypeId} {fr : Nat × Nat} (d : Array Value) (hb : w.heap[g]? = some (.cells cur e fr)) :
    (grow (putRow id (Sort.ahead w n) g 0 d) os).heap[g]? = some (.cells (putCells id 0 d cur) e fr) := by
  have hg : g < w.heap.size := (Array.getElem?_eq_some_iff.1 hb).1
  rw [heap_grow_old _ _ (by simpa using hg)]
  simp [putRow, mapBlock, Sort.ahead, Array.getElem?_modify, hb, onCells]
theorem grownBy_sortedP {w : World} {g n : Nat} {os : Array Obj} (d : Array Value) : w.grownBy (grow (putRow id (Sort.ahead w n) g 0 d) os) (some g) := by
  refine ⟨rfl, rfl, rfl, by simp, fun k hk hne => ?_⟩
  rw [heap_grow_old _ _ (by simpa using hk)]
  have : g ≠ k := fun e => hne (by rw [e])
  simp [putRow, mapBlock, Sort.ahead, Array.getElem?_modify, this]
theorem take_putCellsP (cur : Array Value) (ts : List Value) (h : ts.length ≤ cur.size) : (putCells id 0 ts.toArray cur).toList.take ts.length = ts := by
  apply List.ext_getElem?
  intro j
  by_cases hj : j < ts.length
  · rw [List.getElem?_take_of_lt hj, Array.getElem?_toList]
    simp [putCells, hj, show j < cur.size by omega]
  · rw [List.getElem?_take_eq_none (by omega), List.getElem?_eq_none (by omega)]
/-- behind the sort the slice owns the spans in their new order -/
theorem ownsP_sorted {w : World} {base g cap n : Nat} {os : Array Obj} {cur : Array Value} {l m : List Sp} (hl : m.length = l.length) (hbase : base ≤ g) (hb : w.heap[g]? = some (.cells cur 47 (0, 0)))
    (h1 : l.length ≤ cap) (h2 : cap ≤ maxLen) (h3 : cur.size = cap * 2) : OwnP (sortWorldK encSp 2 w g 0 n m.toArray os) base (.slice (some ⟨g, 0, none⟩) l.length cap) m := by
  unfold OwnP sortWorldK putRowK
  rw [flatK_eq, hl]
  refine ⟨by rw [flatP_len, hl], .inr ⟨g, cap, _, rfl, hbase, heap_sortedP _ hb, h1, h2, by simp [putCells, h3], ?_⟩⟩
  have := take_putCellsP cur (flatP m) (by rw [flatP_len, hl, h3]; omega)
  rw [flatP_len, hl] at this
  exact this
def cmpI (x y : Int) : Int := if x < y then -1 else if y < x then 1 else 0
theorem ltLo (x y : Sp) : ltOf (fun x y : Sp => cmpI x.1 y.1) x y = decide (x.1 < y.1) := by
  unfold ltOf cmpI
  by_cases h1 : x.1 < y.1
  · simp [h1]
  · by_cases h2 : y.1 < x.1 <;> simp [h1, h2]
theorem swoLo : SWO (ltOf fun x y : Sp => cmpI x.1 y.1) where
  irrefl x := by rw [ltLo]; simp
  trans x y z h1 h2 := by rw [ltLo] at *; simp at *; omega
  ntrans x y z h1 h2 := by rw [ltLo] at *; simp at *; omega
theorem i_cmp (x y : Int) (w : World) : Calls Tryz.prog 138 #[.int .i64 x, .int .i64 y] w fun e w' => e = .returned (.int .i64 (cmpI x y)) ∧ w' = w := by
  unfold cmpI
  by_cases h1 : x < y
  · rw [if_pos h1]
    go_enter Tryz.func138, Tryz.ntmps138
    go_wp2_with (go_at_call 190; go_in)
    go_ret
    exact ⟨rfl, rfl⟩
  · rw [if_neg h1]
    by_cases h2 : y < x
    · rw [if_pos h2]
      go_enter Tryz.func138, Tryz.ntmps138
      go_wp2_with (go_at_call 190; go_in)
      go_ret
      exact ⟨rfl, rfl⟩
    · rw [if_neg h2]
      obtain rfl : x = y := by omega
      go_enter Tryz.func138, Tryz.ntmps138
      go_wp2_with (go_at_call 190; go_in)
      go_ret
      exact ⟨rfl, rfl⟩
theorem i_cmp1 (x y : Sp) (W : World) : Calls Tryz.prog 137 #[.agg #[.int .i64 x.1, .int .i64 x.2], .agg #[.int .i64 y.1, .int .i64 y.2]] W fun e w' => e = .returned (.int .i64 (cmpI x.1 y.1)) ∧ ∃ q os', w' = grow (W.drewN q) os' := by
  have hcon := fun W' => i_cmp x.1 y.1 W'
  obtain ⟨x0, x1⟩ := x
  obtain ⟨y0, y1⟩ := y
  dsimp only at hcon ⊢
  generalize cmpI x0 y0 = r at hcon ⊢
  go_enter Tryz.func137, Tryz.ntmps137
  go_wp2_with (go_at_call 138; refine (hcon _).mono ?_; rintro e w' ⟨rfl, rfl⟩)
  go_ret
  exact ⟨rfl, 0, _, by rw [alloc_eq_grow, alloc_eq_grow, grow_grow]; rfl⟩
theorem i_sort {b : Nat} {v : Value} {l : List Sp} (w : World) (h : OwnP w b v l) (hl : l.length ≤ 100000) :
    Calls Tryz.prog 136 #[v, .func (.func 137) #[] #[]] w fun e w' => e = .returned (.tuple #[]) ∧
      ∃ m : List Sp, m.Perm l ∧ m.Pairwise (fun a b => a.1 ≤ b.1) ∧ OwnP w' b v m ∧ w.grownBy w' v.ownBlock := by
  rcases h.2 with ⟨rfl, hn⟩ | ⟨g, cap, cur, rfl, hbase, hblk, hnc, hcm, hsz, htk⟩
  · have hcon := AnyF.slices_SortFunc_none { Tryz.sortSp with } none 0 (.func (.func 137) #[] #[]) w
    change Calls Tryz.prog 136 _ _ _ at hcon
    obtain rfl : l = [] := List.length_eq_zero_iff.1 hn
    exact hcon.mono fun e w' ⟨he, hw⟩ => ⟨he, [], List.Perm.nil, List.Pairwise.nil, by first | (subst hw; exact h) | (rw [← hw]; exact h) , by first | (subst hw; exact World.grownBy.refl _ _) | (rw [← hw]; exact World.grownBy.refl _ _)⟩
  · have eg : ∀ args w, (callFunc 137 args).run Tryz.prog w = .ok (.enter 137 args) w := enters_of Tryz.func137 (by kernel_rfl) rfl
    have hcon := AnyQ.slices_SortFunc Tryz.sortSp 2 Tryz.isAgg47 Tryz.sizeOf47 encSp (fun _ => rfl) (fun x v hv => by simp [encSp] at hv; rcases hv with rfl | rfl <;> rfl) (fun x y : Sp => cmpI x.1 y.1) swoLo 137 #[] g 0 cap l.toArray w eg (fun _ _ _ _ x y => i_cmp1 x y _) (holdsP hblk htk) ((Array.getElem?_eq_some_iff.1 hblk).1) (by simp; omega)
    change Calls Tryz.prog 136 _ _ _ at hcon
    refine hcon.mono ?_
    rintro e w' ⟨rfl, d', n, os, hp, hs, rfl⟩
    obtain ⟨p1, p2, p3⟩ := hp
    have hsz' : d'.size = l.length := by simpa using p1
    have e1 : d'.extract 0 l.toArray.size = d' := by
      have : l.toArray.size = d'.size := by simp [hsz']
      rw [this]; simp
    have e2 : l.toArray.extract 0 l.toArray.size = l.toArray := by simp
    rw [e1, e2] at p3
    refine ⟨rfl, d'.toList, by simpa using p3, ?_, ?_, ?_⟩
    · rw [List.pairwise_iff_getElem]
      intro i j hi hj hij
      have hi' : i < d'.size := by simpa using hi
      have hj' : j < d'.size := by simpa using hj
      have := hs i j (Nat.zero_le _) hij (by simpa [hsz'] using hj')
      rw [ltLo, getElem!_pos d' i hi', getElem!_pos d' j hj'] at this
      simp at this
      simpa using this
    · have := ownsP_sorted (m := d'.toList) (l := l) (n := n) (os := os) (by simpa using hsz') hbase hblk hnc hcm hsz
      simpa using this
    · unfold sortWorldK putRowK
      exact grownBy_sortedP _
end Go.Proofs.YtmpgokijlikddaaGreatDoor
/- The program's united: spans cloned, put in order, joined. Conditions: how the slice lies; not too many spans; their bounds. -/
namespace Go.Proofs.YtmpgokijlikddaaGreatDoor
open Go.RowKit
theorem addr_add (g j : Nat) : (⟨g, 0, none⟩ : Addr).add j = ⟨g, j, none⟩ := by unfold Addr.add; split <;> simp_all
/-- append(out, list..) where out and list are rows of the call's own -/
theorem wpList_appL {ops : Array Oper} {rest : List Oper} {o : Oper} {a : Act} {Q : Exit → Act → World → Prop} (hgd : o.guard = none) (s x : Operand)
    (ho : o.op = .call { callee := .builtin .append, args := #[s, x], argTypes := #[27, 27] }) (wr : World) (base : Nat) (v : Value) (l : List Sp)
    (hs : a.eval s = v) (hown : OwnP wr base v l) (b2 : Nat) (v2 : Value) (m : List Sp) (hx : a.eval x = v2) (V2 : OwnP wr b2 v2 m) (hne : v2 ≠ .slice none 0 0) (hlen : l.length + m.length ≤ 10000000) (hbase : base ≤ wr.heap.size)
    (h : ∀ v' w', OwnP w' base v' (l ++ m) → wr.grownBy w' v.ownBlock → wpList Tryz.prog ops Q rest (a.put o.dst v') w') :
    wpList Tryz.prog ops Q (o :: rest) a wr := by
  obtain ⟨i0, hi, hz0, hz1, hz2⟩ := info_parts infoP
  rcases V2.2 with ⟨e, _⟩ | ⟨g, cap, cur, rfl, _, _, _, _, _, _⟩
  · exact absurd e hne
  refine wpList_append_own _ hgd s x 27 ho base 47 i0 (.agg #[.int .i64 0, .int .i64 0]) 2 16 Tryz.underlying27 hi hz0 hz1 hz2 rfl (by decide) v l.length (flatP l) hs hown
    ⟨g, 0, none⟩ m.length cap (flatP m) hx (flatP_len m) ?_ (flatP_one m) (by unfold maxLen; omega) (by omega) hbase ?_
  · intro j u hu
    have hj : j < (flatP m).length := (List.getElem?_eq_some_iff.1 hu).1
    rw [flatP_len] at hj
    have := World.ownsRow.cellAt (n := m.length) (size := 2) V2 j hj
    rw [addr_add]
    exact this.trans hu
  · intro v' w' hown' hgr _
    refine h v' w' ?_ hgr
    unfold OwnP
    rw [List.length_append, flatP_app]
    exact hown'
set_option maxRecDepth 100000 in
theorem i_clone {b : Nat} {v : Value} {l : List Sp} (w : World) (h : OwnP w b v l) (hl : l.length ≤ 100000) :
    Calls Tryz.prog 135 #[v] w fun e w' => ∃ v', e = .returned v' ∧ OwnP w' w.heap.size v' l ∧ Below w.heap.size w w' := by
  have h0 := h
  rcases h.2 with ⟨rfl, hn⟩ | ⟨g, cap, cur, hv, _, _, _, _, _, _⟩
  · obtain rfl : l = [] := List.length_eq_zero_iff.1 hn
    have hnil := fun W => Lib.run_eql_slice_nil W 27 _ none 0 0 0 0 Tryz.underlying27
    simp only [Option.isNone_none] at hnil
    go_enter Tryz.func135, Tryz.ntmps135
    go_wp2_with fail
    go_ret
    exact ⟨_, rfl, OwnP.nil _ _, Below.refl _ _⟩
  · have hne : v ≠ .slice none 0 0 := by rw [hv]; simp
    have V := h.alloc (.cells #[] 47)
    have hl' : ([] : List Sp).length + l.length ≤ 10000000 := by simp; omega
    subst hv
    have hnil := fun W => Lib.run_eql_slice_nil W 27 _ (some ⟨g, 0, none⟩) l.length cap 0 0 Tryz.underlying27
    simp only [Option.isNone_some] at hnil
    obtain ⟨n, hn⟩ : ∃ n, l.length = n := ⟨_, rfl⟩
    rw [hn] at V hnil hne ⊢
    clear h h0 hn
    go_enter Tryz.func135, Tryz.ntmps135
    go_wp2_with (at_builtin; refine Hid.out ?_)
    refine Lib.hid ?_
    refine wpList_appL rfl _ _ rfl _ w.heap.size (.slice (some ⟨w.heap.size, 0, none⟩) 0 0) [] ?_ (OwnP.lit0 w) _ (.slice (some ⟨g, 0, none⟩) n cap) l ?_ V hne hl' (by simp) ?_
    · rfl
    · rfl
    intro v' w' V2 hg2
    go_wp2_with fail
    go_ret
    exact ⟨_, rfl, by simpa using V2, (OwnP.lit0 w).below_grown (below_alloc w _) hg2 (by simp)⟩
set_option maxRecDepth 100000 in
set_option maxHeartbeats 4000000 in
theorem i_united {b : Nat} {v : Value} {l : List Sp} (w : World) (h : OwnP w b v l) (hl : l.length ≤ 1000) (hb : ∀ s ∈ l, spB s) (hle : ∀ s ∈ l, s.1 ≤ s.2) :
    Calls Tryz.prog 69 #[v] w fun e w' => ∃ v', e = .returned v' ∧ OwnP w' w.heap.size v' (uni l) ∧ Below w.heap.size w w' := by
  have CL := Lib.hid (i_clone w h (by omega))
  have SO := Lib.hid (fun (W : World) (u : Value) (B : Nat) (hU : OwnP W B u l) => i_sort W hU (by omega))
  have HB := Lib.hid hb
  have HLE := Lib.hid hle
  clear h hb hle
  go_enter Tryz.func69, Tryz.ntmps69
  go_wp2_with fail
  refine CL.out.mono ?_
  rintro e w1 ⟨v1, rfl, V1, L1⟩
  clear CL
  go_wp2_with fail
  refine (SO.out _ _ _ V1).mono ?_
  rintro e w2 ⟨rfl, T, hperm, hpair, V, hg⟩
  have L := V1.below_grown L1 hg L1.size
  have hT : T.length = l.length := hperm.length_eq
  have hmem : ∀ s, s ∈ T ↔ s ∈ l := fun s => hperm.mem_iff
  have hbd : ∀ s ∈ T, spB s := fun s hs => HB.out s ((hmem s).1 hs)
  have hU : mrg T = uni l := mrg_uni HLE.out hmem hpair
  have hA := mgr_all T
  rw [hU] at hA
  clear SO hperm hpair hmem HLE HB V1 L1 hg
  obtain ⟨k, hk⟩ : ∃ k, T.length = k := ⟨_, rfl⟩
  rw [← hT, hk] at hl
  clear hT
  have HBD := Lib.hid (fun (j : Nat) => mgr_bd hbd j)
  have HTB := Lib.hid (fun (j : Nat) (hj : j < k) => hbd _ (getD_mem (l := T) (j := j) (by omega)))
  have HNX := Lib.hid (fun (j : Nat) (hj : j < k) => mgr_succ T j (by omega))
  have HML := Lib.hid (fun j => mgr_len T j)
  rw [hk] at hA
  have HU := Lib.hid hA.symm
  have hLs := L.size
  obtain ⟨_, A1, c1, rfl, P1⟩ := V.opened
  rw [hk] at P1 ⊢
  have HP1 := Lib.hid P1
  clear P1 hA hbd V hk hU
  go_wp2_with fail
  go_loopw [4, 15] (fun o i wr' => ∃ j : Nat, j ≤ k ∧ i = .int .i64 j ∧ OwnP wr' w2.heap.size o (mgr T j).reverse ∧ Below w2.heap.size w2 wr') (fun _ i _ => k - (intOf i).toNat)
  case atStart => exact ⟨0, by omega, rfl, OwnP.lit0 w2, below_alloc _ _⟩
  case round =>
    obtain ⟨j, hj, rfl, V, L2⟩ := hrel
    have hL2 := L2.size
    by_cases hlt : j < k
    · obtain ⟨g1, rfl, _, hg1, hc1, _⟩ := HP1.out (by omega)
      obtain ⟨d0, d1⟩ := hc1 j hlt
      replace d0 := (L2.cell (p := ⟨g1, j * 2, none⟩) hg1).trans d0
      replace d1 := (L2.cell (p := ⟨g1, j * 2 + 1, none⟩) hg1).trans d1
      obtain ⟨s0, s1, s2, s3⟩ := HTB.out j hlt
      have hnext := HNX.out j hlt
      have hml := HML.out j
      have hbd := HBD.out j
      have hg1w := Nat.lt_of_lt_of_le hg1 hL2
      obtain ⟨s, hs⟩ : ∃ s, T.getD j sp0 = s := ⟨_, rfl⟩
      rw [hs] at d0 d1 s0 s1 s2 s3 hnext
      obtain ⟨x, y⟩ := s
      dsimp only at d0 d1 s0 s1 s2 s3
      obtain ⟨D, hD⟩ : ∃ D, mgr T j = D := ⟨_, rfl⟩
      rw [hD] at V hnext hml hbd
      clear hD hc1 hs
      replace V := V.alloc (.cells #[.int .i64 x, .int .i64 y] 47)
      have X := Blk.new wr 47 #[.int .i64 x, .int .i64 y]
      replace L2 := below_more L2 hL2 (.cells #[.int .i64 x, .int .i64 y] 47)
      have hL3 := L2.size
      cases D with
      | nil =>
        have HN := Lib.hid hnext; clear hnext hbd
        obtain ⟨_, A2, c2, rfl, _⟩ := V.opened
        have hn0 : ([] : List Sp).reverse.length = 0 := rfl
        rw [hn0] at V ⊢
        have x0 := X.c0
        have x1 := X.c1
        go_wp2_with fail
        go_quiet (fail)
        go_wp2_with (at_builtin; refine wpList_appP rfl _ _ rfl _ _ _ _ _ _ rfl (V.drewN _) _ (by simp) rfl (by simp) hL3 ?_; intro v2 w3 V2 hg2)
        go_roundw
        case rel => exact ⟨j + 1, by omega, by go_num, by rw [HN.out]; exact V2, (V.drewN _).below_grown (below_drewN L2 _) hg2 hL3⟩
        case measure => simp [intOf]; omega
      | cons t r =>
        obtain ⟨t0, t1, t2, t3⟩ := hbd t (List.mem_cons_self ..)
        clear hbd
        have hr1 : (t :: r).reverse.length = r.length + 1 := by simp
        obtain ⟨_, A2, c2, rfl, P⟩ := V.opened
        rw [hr1] at V P ⊢
        obtain ⟨g, rfl, hg0, hg2, hcs, hfr⟩ := P (by omega)
        obtain ⟨_, e1⟩ := hcs r.length (by omega)
        rw [last_get] at e1
        have hf := hfr (r.length * 2 + 1)
        clear hcs hfr P
        simp only [List.length_cons] at hml
        have hsub : IntKind.i64.wrap (((r.length + 1 : Nat) : Int) - 1) = (r.length : Int) := by rw [IntWalk.i64_in _ (by omega)]; omega
        have hset := fun q u => (V.drewN q).set1 hr1.symm r.length (by omega) u
        rw [last_get] at hset
        simp only [last_set] at hset
        obtain ⟨tf, tt⟩ := t
        dsimp only at t0 t1 t2 t3 e1 hset
        have x0 := X.c0
        have x1 := X.c1
        by_cases hc : x ≤ tt + 1
        · rw [mst_yes (show ((x, y) : Sp).1 ≤ ((tf, tt) : Sp).2 + 1 from hc)] at hnext
          dsimp only at hnext
          have hme : (if tt < y then y else tt) = max tt y := by split <;> omega
          have HN := Lib.hid hnext
          clear hnext
          go_wp2_with fail
          go_quiet (fail)
          go_wp2_with fail
          go_region
          have hg3 := hset (nq + 1) (max tt y)
          have L3 := (V.drewN (nq + 1)).below_grown (below_drewN L2 _) hg3.2 hL3
          go_wp2_with fail
          go_roundw
          case rel => exact ⟨j + 1, by omega, by go_num, by rw [HN.out]; exact hg3.1, L3⟩
          case measure => simp [intOf]; omega
        · rw [mst_no (show ¬ ((x, y) : Sp).1 ≤ ((tf, tt) : Sp).2 + 1 from hc)] at hnext
          have HN := Lib.hid hnext
          clear hnext hset
          have hc' : decide (x ≤ tt + 1) = false := by simpa using hc
          have hlt3 : tt + 1 < x := by omega
          clear hc
          go_wp2_with fail
          go_quiet (fail)
          go_wp2_with (at_builtin; refine wpList_appP rfl _ _ rfl _ _ _ _ _ _ rfl (V.drewN _) _ (by simp) rfl (by simp; omega) hL3 ?_; intro v2 w3 V2 hg2)
          go_roundw
          case rel => exact ⟨j + 1, by omega, by go_num, by rw [HN.out, List.reverse_cons]; exact V2, (V.drewN _).below_grown (below_drewN L2 _) hg2 hL3⟩
          case measure => simp [intOf]; omega
    · obtain rfl : j = k := by omega
      go_wp2_with fail
      go_ret
      exact ⟨_, rfl, by rw [HU.out]; exact V.mono hLs, L.trans (L2.mono hLs)⟩
end Go.Proofs.YtmpgokijlikddaaGreatDoor
