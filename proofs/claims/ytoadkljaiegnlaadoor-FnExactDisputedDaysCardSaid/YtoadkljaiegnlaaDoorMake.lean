/- The set of all days of spans, by the reference: put in order, then united. Conditions: how the spans lie; not too many; their bounds. -/
import Derived.Test.YtoadkljaiegnlaaDoorInsP
import Derived.IntWalk
namespace Go.Proofs.YtoadkljaiegnlaaDoor
open Go.RowKit
set_option maxRecDepth 100000 in
set_option maxHeartbeats 8000000 in
theorem s_Make {b : Nat} {v : Value} {l : List Sp} (w : World) (h : OwnP w b v l) (hl : l.length ≤ 1000) (hb : ∀ s ∈ l, spB s) :
    Calls Tryd.prog 79 #[v] w fun e w' => ∃ v', e = .returned v' ∧ OwnP w' w.heap.size v' (uni l) ∧ Below w.heap.size w w' := by
  obtain ⟨_, A, c, rfl, p⟩ := h.opened
  have HI := Lib.hid (fun k => isr_succ l k)
  have HL := Lib.hid (fun k => isr_len l k)
  have HE := Lib.hid (isr_all l)
  clear h
  obtain ⟨n, hn⟩ : ∃ n, l.length = n := ⟨_, rfl⟩
  rw [hn] at p hl HI HL HE ⊢
  have HP := Lib.hid p; clear p
  have HB := Lib.hid hb; clear hb
  go_enter Tryd.func79, Tryd.ntmps79
  go_wp2_with fail
  go_loopw [3, 4] (fun o i wr => ∃ k : Nat, k ≤ n ∧ i = .int .i64 k ∧ OwnP wr w.heap.size o (isr l k) ∧ Below w.heap.size w wr) (fun _ i _ => n - (intOf i).toNat)
  case atStart => exact ⟨0, by omega, rfl, OwnP.lit0 w, below_alloc _ _⟩
  case round =>
    obtain ⟨k, hk, rfl, V, L⟩ := hrel
    by_cases hlt : k < n
    · obtain ⟨gi, rfl, _, hgi, hci, _⟩ := HP.out (by omega)
      obtain ⟨d0, d1⟩ := hci k hlt
      clear hci
      have hnext := HI.out k hlt
      have hS := HL.out k hk
      obtain ⟨s, hs⟩ : ∃ s, l.getD k sp0 = s := ⟨_, rfl⟩
      rw [hs] at d0 d1 hnext
      obtain ⟨S, hSS⟩ : ∃ S, isr l k = S := ⟨_, rfl⟩
      rw [hSS] at V hS hnext
      clear hs hSS
      obtain ⟨x, y⟩ := s
      have hgw := Nat.lt_of_lt_of_le hgi L.size
      obtain ⟨_, A1, c1, rfl, P1⟩ := V.opened
      rw [hS] at V P1 ⊢
      have HP1 := Lib.hid P1; clear P1
      have HNX := Lib.hid hnext; clear hnext
      dsimp only at d0 d1
      have HD0 := Lib.hid d0
      have HD1 := Lib.hid d1
      replace d0 := (L.cell (p := ⟨gi, k * 2, none⟩) hgi).trans d0
      replace d1 := (L.cell (p := ⟨gi, k * 2 + 1, none⟩) hgi).trans d1
      go_wp2_with fail
      go_loopw [5] (fun q wr' => ∃ t : Nat, t ≤ k ∧ q = .int .i64 t ∧ Hid (∀ j, j < t → (S.getD j sp0).1 ≤ x) ∧ ∃ d, wr' = wr.drewN d) (fun q _ => k - (intOf q).toNat)
      case atStart => exact ⟨0, by omega, rfl, Lib.hid (fun j h => absurd h (Nat.not_lt_zero j)), 0, rfl⟩
      case round =>
        obtain ⟨t, ht, rfl, HT, d, rfl⟩ := hrel
        by_cases hgo : t < k ∧ (S.getD t sp0).1 ≤ x
        · obtain ⟨ht2, hle⟩ := hgo
          obtain ⟨g1, rfl, _, hg1, hc1, _⟩ := HP1.out (by omega)
          obtain ⟨e0, _⟩ := hc1 t ht2
          clear hc1
          obtain ⟨z, hz⟩ : ∃ z, (S.getD t sp0).1 = z := ⟨_, rfl⟩
          rw [hz] at hle e0
          go_wp2_with fail
          go_quiet (fail)
          go_wp2_with fail
          go_roundw
          case rel => exact ⟨t + 1, by omega, by go_num, Lib.hid (by intro j hj; by_cases hjt : j = t; (subst hjt; rw [hz]; exact hle); exact HT.out j (by omega)), _, rfl⟩
          case measure => simp [intOf]; omega
        · have hins : ins (x, y) S = insAt t (x, y) S := ins_at (x, y) t S (by omega) HT.out (fun h1 => by
            rw [hS] at h1
            have : ¬ (S.getD t sp0).1 ≤ x := fun h2 => hgo ⟨h1, h2⟩
            show x < _; omega)
          have HN2 := Lib.hid (HNX.out.trans hins)
          clear hins HT HNX
          have hways : (¬ t < k ∧ ¬ (t : Int) < (k : Int)) ∨ (t < k ∧ ¬ (S.getD t sp0).1 ≤ x) := by
            by_cases h1 : t < k
            · exact .inr ⟨h1, fun h2 => hgo ⟨h1, h2⟩⟩
            · exact .inl ⟨h1, by omega⟩
          clear hgo
          have hLs := L.size
          have hEnd : S ++ [((0, 0) : Sp)] = insAt S.length (0, 0) S := insAt_end (0, 0) S
          have hsub2 : IntKind.i64.wrap (((k + 1 : Nat) : Int) - 1) = (k : Int) := by rw [IntWalk.i64_in _ (by omega)]; omega
          have HG := Lib.hid (fun (j : Nat) (x0 : Sp) (hj : j + 1 ≤ k) => insAt_get j x0 S (by omega))
          have HK := Lib.hid (fun (j : Nat) (x0 : Sp) (hj : j + 1 ≤ k) => insAt_back j x0 S (by omega))
          have HQ := Lib.hid (fun (x0 y0 : Sp) => insAt_set t x0 y0 S (by omega))
          have HN := Lib.hid (fun (j : Nat) (x0 : Sp) => (insAt_len j x0 S).trans (by rw [hS]))
          have hN1 : (S ++ [((0, 0) : Sp)]).length = k + 1 := by simp [hS]
          rw [hS] at hEnd
          have HEND := Lib.hid hEnd
          have HN1 := Lib.hid hN1
          have hlS : S.length ≤ 10000000 := by omega
          clear hEnd hN1 hS
          rcases hways with ⟨h1, h2⟩ | ⟨ht2, hle⟩
          rotate_left
          obtain ⟨g1, rfl, _, hg1, hc1, _⟩ := HP1.out (by omega)
          obtain ⟨e0, _⟩ := hc1 t ht2
          clear hc1
          obtain ⟨z, hz⟩ : ∃ z, (S.getD t sp0).1 = z := ⟨_, rfl⟩
          rw [hz] at hle e0
          have hle' : decide (z ≤ x) = false := by simpa using hle
          have hlt' : x < z := by omega
          clear hle hz
          all_goals
            go_wp2_with fail
            go_quiet (fail)
            go_wp2_with (at_builtin; refine wpList_appP rfl _ _ rfl _ _ _ _ _ _ rfl (V.drewN _) _ rfl rfl hlS hLs ?_; intro v2 w2 V2 hg2; have L2 := (V.drewN _).below_grown (below_drewN L _) hg2 hLs; obtain ⟨_, A2, c2, rfl, _⟩ := V2.opened; rw [HN1.out] at V2 ⊢; rw [HEND.out] at V2; clear hg2 V L)
            obtain ⟨g2, rfl, _⟩ := V2.at_.2 (by rw [HN.out]; omega)
            go_loopw [6] (fun r wr' => ∃ rr : Nat, t ≤ rr ∧ rr ≤ k ∧ r = .int .i64 rr ∧ (∃ x0, OwnP wr' w.heap.size (.slice (some ⟨g2, 0, none⟩) (k + 1) c2) (insAt rr x0 S)) ∧ Below w.heap.size w wr') (fun r _ => (intOf r).toNat)
            case atStart => exact ⟨k, by omega, by omega, rfl, ⟨_, V2⟩, L2⟩
            case round =>
              clear V2 L2
              obtain ⟨rr, ht1, hrk, rfl, ⟨x0, V2⟩, L2⟩ := hrel
              have hpos : 0 < (insAt rr x0 S).length := by rw [HN.out]; omega
              obtain ⟨hnn, hb2, hgw2, hc2, hf2⟩ := V2.atg hpos
              have hLs2 := L2.size
              by_cases hgt : t < rr
              · obtain ⟨j, rfl⟩ : ∃ j, rr = j + 1 := ⟨rr - 1, by omega⟩
                obtain ⟨a0, a1⟩ := hc2 j (by rw [HN.out]; omega)
                rw [HG.out j x0 (by omega)] at a0 a1
                obtain ⟨b0, b1⟩ := hc2 (j + 1) (by rw [HN.out]; omega)
                have f0 := hf2 ((j + 1) * 2)
                have f1 := hf2 ((j + 1) * 2 + 1)
                have hback := HK.out j x0 (by omega)
                obtain ⟨pp, hpp⟩ : ∃ pp, S.getD j sp0 = pp := ⟨_, rfl⟩
                obtain ⟨oo, hoo⟩ : ∃ oo, (insAt (j + 1) x0 S).getD (j + 1) sp0 = oo := ⟨_, rfl⟩
                rw [hpp] at a0 a1 hback
                rw [hoo] at b0 b1
                obtain ⟨p, q⟩ := pp
                obtain ⟨o0, o1⟩ := oo
                have hset := V2.setAt hnn (j + 1) (by rw [HN.out]; omega) p q
                rw [hback] at hset
                obtain ⟨V3, hg3⟩ := hset
                have L3 := V2.below_grown L2 hg3 hLs2
                have hsub3 : IntKind.i64.wrap (((j + 1 : Nat) : Int) - 1) = (j : Int) := by rw [IntWalk.i64_in _ (by omega)]; omega
                dsimp only at a0 a1 b0 b1
                clear hc2 hf2 hback V2 L2 hg3 hnn hpos hoo hpp
                first
                  | omega
                  | (go_wp2_with fail
                     go_roundw
                     case rel => exact ⟨j, by omega, by omega, by go_num, ⟨_, V3⟩, L3⟩
                     case measure => simp [intOf])
              · obtain rfl : rr = t := by omega
                obtain ⟨b0, b1⟩ := hc2 rr (by rw [HN.out]; omega)
                have f0 := hf2 (rr * 2)
                have f1 := hf2 (rr * 2 + 1)
                obtain ⟨oo, hoo⟩ : ∃ oo, (insAt rr x0 S).getD rr sp0 = oo := ⟨_, rfl⟩
                rw [hoo] at b0 b1
                obtain ⟨o0, o1⟩ := oo
                have hset := V2.setAt hnn rr (by rw [HN.out]; omega) x y
                rw [HQ.out, ← HN2.out] at hset
                obtain ⟨V3, hg3⟩ := hset
                have L3 := V2.below_grown L2 hg3 hLs2
                have e0 := (L2.cell (p := ⟨gi, k * 2, none⟩) hgi).trans (HD0.out)
                have e1 := (L2.cell (p := ⟨gi, k * 2 + 1, none⟩) hgi).trans (HD1.out)
                have hgw3 := Nat.lt_of_lt_of_le hgi L2.size
                dsimp only at b0 b1
                clear hc2 hf2 V2 L2 hg3 hnn hpos hoo
                go_wp2_with fail
                go_roundw
                case rel => exact ⟨k + 1, by omega, by go_num, V3, L3⟩
                case measure => simp [intOf]; omega
    · obtain rfl : k = n := by omega
      have hT := HL.out k (Nat.le_refl _)
      rw [HE.out] at V hT
      have hbd := isort_bd HB.out
      have hU : uni l = mrg (isort l) := rfl
      obtain ⟨T, hTT⟩ : ∃ T, isort l = T := ⟨_, rfl⟩
      rw [hTT] at V hT hbd hU
      have hA := mgr_all T
      have HBD := Lib.hid (fun (j : Nat) => mgr_bd hbd j)
      have HTB := Lib.hid (fun (j : Nat) (hj : j < k) => hbd _ (getD_mem (l := T) (j := j) (by omega)))
      have HNX := Lib.hid (fun (j : Nat) (hj : j < k) => mgr_succ T j (by omega))
      have HML := Lib.hid (fun j => mgr_len T j)
      rw [hT] at hA
      have HU := Lib.hid (hU.trans hA.symm)
      have hLs := L.size
      obtain ⟨_, A1, c1, rfl, P1⟩ := V.opened
      rw [hT] at P1 ⊢
      have HP1 := Lib.hid P1
      clear P1 hU hA hbd hTT V HP HB HI HL HE hn
      go_wp2_with fail
      go_loopw [7, 8] (fun o i wr' => ∃ j : Nat, j ≤ k ∧ i = .int .i64 j ∧ OwnP wr' wr.heap.size o (mgr T j).reverse ∧ Below wr.heap.size wr wr') (fun _ i _ => k - (intOf i).toNat)
      case atStart => exact ⟨0, by omega, rfl, OwnP.lit0 wr, below_alloc _ _⟩
      case round =>
        obtain ⟨j, hj, rfl, V, L2⟩ := hrel
        have hL2 := L2.size
        by_cases hlt : j < k
        · obtain ⟨g1, rfl, _, hg1, hc1, _⟩ := HP1.out (by omega)
          obtain ⟨d0, d1⟩ := hc1 j hlt
          replace d0 := (L2.cell (p := ⟨g1, j * 2, none⟩) hg1).trans d0
          replace d1 := (L2.cell (p := ⟨g1, j * 2 + 1, none⟩) hg1).trans d1
          obtain ⟨s0, s1, s2, s3⟩ := HTB.out j hlt
          have hnext := HNX.out j hlt
          have hml := HML.out j
          have hbd := HBD.out j
          have hg1w := Nat.lt_of_lt_of_le hg1 hL2
          obtain ⟨s, hs⟩ : ∃ s, T.getD j sp0 = s := ⟨_, rfl⟩
          rw [hs] at d0 d1 s0 s1 s2 s3 hnext
          obtain ⟨x, y⟩ := s
          dsimp only at d0 d1 s0 s1 s2 s3
          obtain ⟨D, hD⟩ : ∃ D, mgr T j = D := ⟨_, rfl⟩
          rw [hD] at V hnext hml hbd
          clear hD hc1 hs
          cases D with
          | nil =>
            have HN := Lib.hid hnext; clear hnext hbd
            obtain ⟨_, A2, c2, rfl, _⟩ := V.opened
            have hn0 : ([] : List Sp).reverse.length = 0 := rfl
            rw [hn0] at V ⊢
            go_wp2_with fail
            go_quiet (fail)
            go_wp2_with (at_builtin; refine wpList_appP rfl _ _ rfl _ _ _ _ _ _ rfl (V.drewN _) _ rfl rfl (by simp) hL2 ?_; intro v2 w2 V2 hg2)
            go_roundw
            case rel => exact ⟨j + 1, by omega, by go_num, by rw [HN.out]; exact V2, (V.drewN _).below_grown (below_drewN L2 _) hg2 hL2⟩
            case measure => simp [intOf]; omega
          | cons t r =>
            obtain ⟨t0, t1, t2, t3⟩ := hbd t (List.mem_cons_self ..)
            clear hbd
            have hr1 : (t :: r).reverse.length = r.length + 1 := by simp
            obtain ⟨_, A2, c2, rfl, P⟩ := V.opened
            rw [hr1] at V P ⊢
            obtain ⟨g, rfl, hg0, hg2, hcs, hfr⟩ := P (by omega)
            obtain ⟨_, e1⟩ := hcs r.length (by omega)
            rw [last_get] at e1
            have hf := hfr (r.length * 2 + 1)
            clear hcs hfr P
            simp only [List.length_cons] at hml
            have hsub : IntKind.i64.wrap (((r.length + 1 : Nat) : Int) - 1) = (r.length : Int) := by rw [IntWalk.i64_in _ (by omega)]; omega
            have hset := fun q u => (V.drewN q).set1 hr1.symm r.length (by omega) u
            rw [last_get] at hset
            simp only [last_set] at hset
            obtain ⟨tf, tt⟩ := t
            dsimp only at t0 t1 t2 t3 e1 hset
            by_cases hc : x ≤ tt + 1
            · rw [mst_yes (show ((x, y) : Sp).1 ≤ ((tf, tt) : Sp).2 + 1 from hc)] at hnext
              dsimp only at hnext
              have hme : (if tt < y then y else tt) = max tt y := by split <;> omega
              have HN := Lib.hid hnext
              clear hnext
              go_wp2_with fail
              go_quiet (fail)
              go_wp2_with fail
              go_region
              have hg3 := hset (nq + 1) (max tt y)
              have L3 := (V.drewN (nq + 1)).below_grown (below_drewN L2 _) hg3.2 hL2
              go_wp2_with fail
              go_roundw
              case rel => exact ⟨j + 1, by omega, by go_num, by rw [HN.out]; exact hg3.1, L3⟩
              case measure => simp [intOf]; omega
            · rw [mst_no (show ¬ ((x, y) : Sp).1 ≤ ((tf, tt) : Sp).2 + 1 from hc)] at hnext
              have HN := Lib.hid hnext
              clear hnext hset
              have hc' : decide (x ≤ tt + 1) = false := by simpa using hc
              have hlt3 : tt + 1 < x := by omega
              clear hc
              go_wp2_with fail
              go_quiet (fail)
              go_wp2_with (at_builtin; refine wpList_appP rfl _ _ rfl _ _ _ _ _ _ rfl (V.drewN _) _ rfl rfl (by simp; omega) hL2 ?_; intro v2 w2 V2 hg2)
              go_roundw
              case rel => exact ⟨j + 1, by omega, by go_num, by rw [HN.out, List.reverse_cons]; exact V2, (V.drewN _).below_grown (below_drewN L2 _) hg2 hL2⟩
              case measure => simp [intOf]; omega
        · obtain rfl : j = k := by omega
          go_wp2_with fail
          go_ret
          exact ⟨_, rfl, by rw [HU.out]; exact V.mono hLs, L.trans (L2.mono hLs)⟩
end Go.Proofs.YtoadkljaiegnlaaDoor
