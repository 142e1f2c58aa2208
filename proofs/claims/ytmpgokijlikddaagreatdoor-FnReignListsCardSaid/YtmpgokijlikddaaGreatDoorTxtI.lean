/- The text of the reigns of a day: the program's function. Printed by gen_txt.py. Conditions: lengths that a machine can hold; how the list lies; the table of powers as it was laid. -/
import Derived.Test.YtmpgokijlikddaaGreatDoorRl7
import Derived.Test.YtmpgokijlikddaaGreatDoorRl8
import Derived.Test.YtmpgokijlikddaaGreatDoorDecI
import Derived.Test.YtmpgokijlikddaaGreatDoorRl5
import Derived.IntWalk
namespace Go.Proofs.YtmpgokijlikddaaGreatDoor
open Go.RowKit
set_option maxRecDepth 100000 in
set_option maxHeartbeats 8000000 in
set_option linter.unusedSimpArgs false in
theorem i_txt7 (g c : Nat) (rs : List RG) (m : Int) (w : World) (hR : RowR w g rs.length rs) (hn : rs.length ≤ 1048576) (hok : ∀ i, rgOk (rs.getD i rg0)) (hg : g < w.heap.size) (ht : Tab w) (hA : areB rs = true) (hm : inB m 0 730499 = true) :
    Calls Tryz.prog 16 #[.slice (some ⟨g, 0, none⟩) rs.length c, .int .i64 m] w fun e w' => e = .returned (.tuple #[.string ⟨(if onK rs m rs.length = [] then [45] else Lib.join (wdsT rs m (onK rs m rs.length)) [44]).toArray⟩, .int .i64 0]) ∧ Below w.heap.size w w' := by
  have con := fun gd W h1 h2 h3 => i_chk g c gd rs m W h1 hn hok h2 h3
  have hF : (onF rs m).2 = 0 := by unfold onF; rw [hA, hm]; rfl
  rw [hF] at con
  have con2 := fun W h => i_on7 g c rs m W h hn
  have hn30 := (are_open hA).1
  have hop := (are_open hA).2
  have hin : 0 ≤ m ∧ m ≤ 730499 := by unfold inB at hm; simpa using hm
  have hnm := are_name hA
  have hwe := wdsT_each (are_name hA) (on_ky hA hm)
  have hol := onK_len rs m rs.length
  have hat := fun j (h : j < (onK rs m rs.length).length) => onK_at h
  obtain ⟨on, hon⟩ : ∃ on, onK rs m rs.length = on := ⟨_, rfl⟩
  rw [hon] at con2 hol hat hwe ⊢
  clear hon
  obtain ⟨R, hRR⟩ : ∃ R, (if on = [] then [45] else Lib.join (wdsT rs m on) [44]) = R := ⟨_, rfl⟩
  rw [hRR]
  have HRR := Lib.hid hRR
  have HW := Lib.hid (fun k h => wdsT_snoc rs m on k h)
  have HWI := Lib.hid (wdT_at rs m)
  have HSL := Lib.hid (fun (W : World) (B : Nat) (v : Value) (h : OwnS W B v (wdsT rs m on)) => c_join 44 W h (by rw [wdsT_len]; omega) hwe)
  have HAT := Lib.hid hat
  have HOP := Lib.hid hop
  have HNM := Lib.hid hnm
  obtain ⟨n, hnn⟩ : ∃ n, rs.length = n := ⟨_, rfl⟩
  rw [hnn] at con con2 hR hn hn30 hol HAT HOP ⊢
  have HLW := Lib.hid (fun k => (wdsT_len rs m (on.take k)))
  obtain ⟨no, hno⟩ : ∃ no, on.length = no := ⟨_, rfl⟩
  rw [hno] at hol HAT HW
  have HON := Lib.hid hno
  have hA1 := (below_alloc w (.cells #[.int .i64 m] 2))
  have hR1 := Lib.hid (hR.below hA1 hg)
  have HR := Lib.hid hR
  have HT := Lib.hid ht
  have CON := Lib.hid con
  have CON2 := Lib.hid con2
  clear con con2 hnn hRR hR ht hat hop hnm hF hA hm hok hn hwe
  go_enter Tryz.func16, Tryz.ntmps16
  go_wp2_with fail
  refine (CON.out _ _ hR1.out (by simp) (Blk.new w _ _).c0).mono ?_
  rintro e w1 ⟨rfl, hb⟩
  have L1 := hA1.trans (hb.mono (by simp))
  have hR2 := Lib.hid ((hR1.out.below hb (by simp; omega)).below (below_alloc w1 (.cells #[] 9)) (by have := hb.size; simp at this; omega))
  have hz1 := L1.size
  have hA2 := below_alloc w1 (.cells #[] 9)
  have L2 := L1.trans (hA2.mono hz1)
  have V0 := OwnS.lit w1 w1.heap.size #[] [] rfl (Nat.le_refl _) (by decide)
  clear CON hb hR1 hA1
  go_wp2_with fail
  refine (CON2.out _ hR2.out).mono ?_
  rintro e w2 ⟨vn, rfl, oI, hb2⟩
  have L3 := below_step L2 hb2
  have hne0 : vn.ownBlock = none ∨ vn.ownBlock ≠ (Value.slice (some ⟨w1.heap.size, 0, none⟩) 0 0).ownBlock := ownS_neI V0 oI (Nat.le_refl _)
  replace V0 := V0.below hb2
  have oI2 : OwnI w2 (w1.heap.size + 1) vn on := by simpa using oI
  have hB0 : w.heap.size ≤ w1.heap.size := hz1
  clear CON2 hb2 hA2 L2 L1 hR2 oI
  obtain ⟨-, A, cc, rfl, -⟩ := oI2.opened
  rw [HON.out] at oI2 hne0 ⊢
  go_wp2_with fail
  go_loopw [7, 22] (fun o q wr => ∃ k : Nat, k ≤ no ∧ q = .int .i64 k ∧ OwnS wr w1.heap.size o (wdsT rs m (on.take k)) ∧ OwnI wr (w1.heap.size + 1) (.slice A no cc) on ∧ ((Value.slice A no cc).ownBlock = none ∨ (Value.slice A no cc).ownBlock ≠ o.ownBlock) ∧ Below w.heap.size w wr) (fun _ q _ => no - (intOf q).toNat)
  case atStart => exact ⟨0, by omega, rfl, by simpa [wdsT] using V0, oI2, hne0, L3⟩
  case round =>
    clear V0 oI2 hne0 L3
    obtain ⟨k, hk, rfl, V, OI, hne, L⟩ := hrel
    have hw := L.size
    by_cases hlt : k < no
    · as_aux_lemma =>
      obtain ⟨-, A', c', hv, PP⟩ := OI.opened
      injection hv with hv1 hv2 hv3
      obtain ⟨gi, hgi, hgi0, hgi1, hci, -⟩ := PP (by rw [HON.out]; omega)
      subst hv1
      subst hgi
      have hkl : k < on.length := by rw [HON.out]; exact hlt
      have d0 : wr.cell? ⟨gi, k, none⟩ = some (.int .i64 (on.getD k 0)) := by
        have := hci k hkl
        rw [this]
        simp [hkl]
      clear hkl
      have HS := Lib.hid (HW.out k hlt)
      have hlw := HLW.out k
      obtain ⟨i, hi, he, hf, hf2⟩ := HAT.out k hlt
      rw [he] at d0 HS
      obtain ⟨hgg, hcc⟩ := HR.out (by omega)
      obtain ⟨h0, h1, h2⟩ := hcc i hi
      obtain ⟨o0, o1, o2⟩ := HOP.out i hi
      have hnm := HNM.out i
      rw [HWI.out i] at HS
      have hb0 : w1.heap.size ≤ wr.heap.size := by omega
      obtain ⟨p, hp⟩ : ∃ p, rs.getD i rg0 = p := ⟨_, rfl⟩
      rw [hp] at h0 h1 h2 o0 o1 o2 hf hf2 HS hnm
      obtain ⟨x, f, t⟩ := p
      dsimp only at h0 h1 h2 o0 o1 o2 hf hf2 HS hnm
      have C0 := Lib.hid h0
      have C1 := Lib.hid h1
      have C2 := Lib.hid h2
      obtain ⟨kb1, kb2, -, -⟩ := ky_bd f m o0 hf hin.2
      have hyr : ((ky f m).toNat : Int) = ky f m := by omega
      have yr := fun W => i_year7 ⟨x.toArray⟩ f t m W o0 hf hin.2
      rw [← hyr] at yr
      have YR := Lib.hid yr
      have DC := Lib.hid (fun W h => i_dec (ky f m).toNat W (by omega) h)
      obtain ⟨D, hD⟩ : ∃ D, Lib.decDigits (ky f m).toNat = D := ⟨_, rfl⟩
      have hDl : D.length ≤ 20 := by rw [← hD, Lib.decDigits_length]; exact Lib.nDigits_le20 _ (by omega)
      obtain ⟨kk, hkk⟩ : ∃ kk, (ky f m).toNat = kk := ⟨_, rfl⟩
      rw [hkk] at YR DC hD
      rw [hD] at DC
      rw [hkk, hD] at HS
      have T : TxW w wr wr w1.heap.size _ _ (w1.heap.size + 1) _ _ := ⟨L, V, OI, Below.refl _ _⟩
      have hlen : (wdsT rs m (on.take k)).length ≤ 1000 := by rw [hlw]; simp; omega
      have hq1 : ¬ 9223372036854775807 < D.length + 1 := by omega
      have hq2 : ¬ 9223372036854775807 < D.length + 1 + x.length := by omega
      have hq3 := bapp D [32]
      have hq4 := bapp (D ++ [32]) x
      rw [List.append_assoc] at hq4
      have hg := hgg
      have hgw : g < wr.heap.size := Nat.lt_of_lt_of_le hg hw
      obtain ⟨xs, hxs⟩ : ∃ xs, wdsT rs m (on.take k) = xs := ⟨_, rfl⟩
      rw [hxs] at T hlen HS
      clear hcc h0 h1 h2 hp yr hkk hD hxs hlw PP hci V OI he hv2 hv3 hyr kb1 kb2 hin
      go_wp2_with fail
      replace T := T.drew
      refine wp_region_any (by kernel_rfl) ?_
      change wpAny _ _ _ _ _ _ _ (World.drew _)
      refine wpAny_take (i := 0) (v := _) rfl (by kernel_rfl) (by kernel_rfl) (by kernel_rfl) (fun _ _ _ h => h) (Or.inl ⟨by kernel_rfl, fun W => by first | rfl | go_simp⟩) ?_
      simp only [Act.put, List.getElem_toArray, List.getElem_cons_succ, List.getElem_cons_zero, List.setIfInBounds_toArray, List.set_cons_succ, List.set_cons_zero]
      refine wpAny_take (i := 1) (v := .slice (some ⟨g, 0, none⟩) n c) rfl (by kernel_rfl) (by kernel_rfl) (by kernel_rfl) (fun _ _ _ h => h) (Or.inl ⟨by kernel_rfl, fun W => by first | rfl | go_simp⟩) ?_
      simp only [Act.put, List.getElem_toArray, List.getElem_cons_succ, List.getElem_cons_zero, List.setIfInBounds_toArray, List.set_cons_succ, List.set_cons_zero]
      refine wpAny_take (i := 2) (v := .int .i64 i) rfl (by kernel_rfl) (by kernel_rfl) (by kernel_rfl) (fun _ _ _ h => h) (Or.inl ⟨by kernel_rfl, fun W => by first | rfl | go_simp⟩) ?_
      simp only [Act.put, List.getElem_toArray, List.getElem_cons_succ, List.getElem_cons_zero, List.setIfInBounds_toArray, List.set_cons_succ, List.set_cons_zero]
      refine wpAny_take (i := 3) (v := .pointer (some ⟨g, i * 3, none⟩)) rfl (by kernel_rfl) (by kernel_rfl) (by kernel_rfl) (fun _ _ _ h => h) (Or.inl ⟨by kernel_rfl, fun W => by first | rfl | go_simp⟩) ?_
      simp only [Act.put, List.getElem_toArray, List.getElem_cons_succ, List.getElem_cons_zero, List.setIfInBounds_toArray, List.set_cons_succ, List.set_cons_zero]
      refine wpAny_take (i := 5) (v := .int .i64 m) rfl (by kernel_rfl) (by kernel_rfl) (by kernel_rfl) (fun _ _ _ h => h) (Or.inl ⟨by kernel_rfl, fun W => by first | rfl | go_simp⟩) ?_
      simp only [Act.put, List.getElem_toArray, List.getElem_cons_succ, List.getElem_cons_zero, List.setIfInBounds_toArray, List.set_cons_succ, List.set_cons_zero]
      refine wpAny_take (i := 9) (v := .slice (some ⟨g, 0, none⟩) n c) rfl (by kernel_rfl) (by kernel_rfl) (by kernel_rfl) (fun _ _ _ h => h) (Or.inl ⟨by kernel_rfl, fun W => by first | rfl | go_simp⟩) ?_
      simp only [Act.put, List.getElem_toArray, List.getElem_cons_succ, List.getElem_cons_zero, List.setIfInBounds_toArray, List.set_cons_succ, List.set_cons_zero]
      refine wpAny_take (i := 10) (v := .int .i64 i) rfl (by kernel_rfl) (by kernel_rfl) (by kernel_rfl) (fun _ _ _ h => h) (Or.inl ⟨by kernel_rfl, fun W => by first | rfl | go_simp⟩) ?_
      simp only [Act.put, List.getElem_toArray, List.getElem_cons_succ, List.getElem_cons_zero, List.setIfInBounds_toArray, List.set_cons_succ, List.set_cons_zero]
      refine wpAny_take (i := 11) (v := .pointer (some ⟨g, i * 3, none⟩)) rfl (by kernel_rfl) (by kernel_rfl) (by kernel_rfl) (fun _ _ _ h => h) (Or.inl ⟨by kernel_rfl, fun W => by first | rfl | go_simp⟩) ?_
      simp only [Act.put, List.getElem_toArray, List.getElem_cons_succ, List.getElem_cons_zero, List.setIfInBounds_toArray, List.set_cons_succ, List.set_cons_zero]
      refine wpAny_take (i := 12) (v := .pointer (some ⟨g, i * 3, none⟩)) rfl (by kernel_rfl) (by kernel_rfl) (by kernel_rfl) (fun _ _ _ h => h) (Or.inl ⟨by kernel_rfl, fun W => by first | rfl | go_simp⟩) ?_
      simp only [Act.put, List.getElem_toArray, List.getElem_cons_succ, List.getElem_cons_zero, List.setIfInBounds_toArray, List.set_cons_succ, List.set_cons_zero]
      refine wpAny_ready (rs := [4, 13]) (by kernel_rfl) (by simp) ?_
      refine AllReady.cons rfl (fun K hK => ?_) (AllReady.cons rfl (fun K hK => ?_) AllReady.nil)
      · have c0 := T.cell (p := ⟨g, i * 3, none⟩) hg C0.out
        have c1 := T.cell (p := ⟨g, i * 3 + 1, none⟩) hg C1.out
        have c2 := T.cell (p := ⟨g, i * 3 + 2, none⟩) hg C2.out
        go_simp
        clear c0 c1 c2
        refine hK _ _ ?_
        clear hK K
        refine wpAny_ready (rs := [6, 13]) (by kernel_rfl) (by simp) ?_
        refine AllReady.cons rfl (fun K hK => ?_) (AllReady.cons rfl (fun K hK => ?_) AllReady.nil)
        · go_simp
          go_at_call 79
          refine (YR.out _).mono ?_
          rintro e wy ⟨rfl, hby⟩
          replace T := T.step hby
          clear hby
          refine hK _ _ ?_
          clear hK K
          refine wpAny_ready (rs := [7, 13]) (by kernel_rfl) (by simp) ?_
          refine AllReady.cons rfl (fun K hK => ?_) (AllReady.cons rfl (fun K hK => ?_) AllReady.nil)
          · go_simp
            go_at_call 78
            refine (DC.out _ (HT.out.of T.1 (Nat.le_refl _))).mono ?_
            rintro e wd ⟨rfl, hbd⟩
            replace T := T.step hbd
            clear hbd
            refine hK _ _ ?_
            clear hK K
            refine wpAny_take (i := 8) (v := .string ⟨(D ++ [32]).toArray⟩) rfl (by kernel_rfl) (by kernel_rfl) (by kernel_rfl) (fun _ _ _ h => h) (Or.inl ⟨by kernel_rfl, fun W => by first | rfl | go_simp⟩) ?_
            simp only [Act.put, List.getElem_toArray, List.getElem_cons_succ, List.getElem_cons_zero, List.setIfInBounds_toArray, List.set_cons_succ, List.set_cons_zero]
            refine wpAny_ready (rs := [13]) (by kernel_rfl) (by simp) ?_
            refine AllReady.cons rfl (fun K hK => ?_) AllReady.nil
            have c0 := T.cell (p := ⟨g, i * 3, none⟩) hg C0.out
            go_simp
            clear c0
            refine hK _ _ ?_
            clear hK K
            refine wpAny_take (i := 14) (v := .string ⟨(D ++ ([32] ++ x)).toArray⟩) rfl (by kernel_rfl) (by kernel_rfl) (by kernel_rfl) (fun _ _ _ h => h) (Or.inl ⟨by kernel_rfl, fun W => by first | rfl | go_simp⟩) ?_
            simp only [Act.put, List.getElem_toArray, List.getElem_cons_succ, List.getElem_cons_zero, List.setIfInBounds_toArray, List.set_cons_succ, List.set_cons_zero]
            refine wpAny_ready (rs := [15]) (by kernel_rfl) (by simp) ?_
            refine AllReady.cons rfl (fun K hK => ?_) AllReady.nil
            go_simp
            refine hK _ _ ?_
            clear hK K
            refine wpAny_ready (rs := [16]) (by kernel_rfl) (by simp) ?_
            refine AllReady.cons rfl (fun K hK => ?_) AllReady.nil
            have T2 := T.step (below_alloc wd (.cells #[.string ⟨(D ++ ([32] ++ x)).toArray⟩] 9))
            refine step_appS rfl _ _ rfl _ _ _ _ (D ++ ([32] ++ x)) ?_ T2.2.1 wd.heap.size ?_ ?_ (by omega) ?_ ?_
            · rfl
            · rfl
            · exact (Blk.new wd _ _).c0
            · have := T2.2.2.1.lt gi rfl; exact Nat.le_trans (Nat.le_of_lt (Nat.lt_of_succ_le this.1)) (Nat.le_of_lt this.2)
            intro v5 w5 V5 hg5 hb5
            have TI := T2.2.2.1.kept hg5 hne
            have hne5 := tx_ne hb5 hne T2.2.2.1
            have L5 := (T2.2.1.mono hB0).below_grown T2.1 hg5 T2.1.size
            refine hK _ _ ?_
            clear hK K
            clear T2 hb5 hg5
            refine wpAny_take (i := 17) (v := v5) rfl (by kernel_rfl) (by kernel_rfl) (by kernel_rfl) (fun _ _ _ h => h) (Or.inl ⟨by kernel_rfl, fun W => by first | rfl | go_simp⟩) ?_
            simp only [Act.put, List.getElem_toArray, List.getElem_cons_succ, List.getElem_cons_zero, List.setIfInBounds_toArray, List.set_cons_succ, List.set_cons_zero]
            refine wpAny_done (by kernel_rfl) ?_ _
            try simp only [List.getElem_toArray, List.getElem_cons_succ, List.getElem_cons_zero, List.setIfInBounds_toArray, List.set_cons_succ, List.set_cons_zero]
            clear T
            go_wp2_with fail
            go_roundw
            case rel => exact ⟨k + 1, by omega, by go_num, V5.toS (by rw [HS.out]), TI, hne5, L5⟩
            case measure => first | (simp [intOf]; done) | (simp [intOf]; omega)
          · have c0 := T.cell (p := ⟨g, i * 3, none⟩) hg C0.out
            go_simp
            clear c0
            refine hK _ _ ?_
            clear hK K
            refine wpAny_ready (rs := [7]) (by kernel_rfl) (by simp) ?_
            refine AllReady.cons rfl (fun K hK => ?_) AllReady.nil
            go_simp
            go_at_call 78
            refine (DC.out _ (HT.out.of T.1 (Nat.le_refl _))).mono ?_
            rintro e wd ⟨rfl, hbd⟩
            replace T := T.step hbd
            clear hbd
            refine hK _ _ ?_
            clear hK K
            refine wpAny_take (i := 8) (v := .string ⟨(D ++ [32]).toArray⟩) rfl (by kernel_rfl) (by kernel_rfl) (by kernel_rfl) (fun _ _ _ h => h) (Or.inl ⟨by kernel_rfl, fun W => by first | rfl | go_simp⟩) ?_
            simp only [Act.put, List.getElem_toArray, List.getElem_cons_succ, List.getElem_cons_zero, List.setIfInBounds_toArray, List.set_cons_succ, List.set_cons_zero]
            refine wpAny_take (i := 14) (v := .string ⟨(D ++ ([32] ++ x)).toArray⟩) rfl (by kernel_rfl) (by kernel_rfl) (by kernel_rfl) (fun _ _ _ h => h) (Or.inl ⟨by kernel_rfl, fun W => by first | rfl | go_simp⟩) ?_
            simp only [Act.put, List.getElem_toArray, List.getElem_cons_succ, List.getElem_cons_zero, List.setIfInBounds_toArray, List.set_cons_succ, List.set_cons_zero]
            refine wpAny_ready (rs := [15]) (by kernel_rfl) (by simp) ?_
            refine AllReady.cons rfl (fun K hK => ?_) AllReady.nil
            go_simp
            refine hK _ _ ?_
            clear hK K
            refine wpAny_ready (rs := [16]) (by kernel_rfl) (by simp) ?_
            refine AllReady.cons rfl (fun K hK => ?_) AllReady.nil
            have T2 := T.step (below_alloc wd (.cells #[.string ⟨(D ++ ([32] ++ x)).toArray⟩] 9))
            refine step_appS rfl _ _ rfl _ _ _ _ (D ++ ([32] ++ x)) ?_ T2.2.1 wd.heap.size ?_ ?_ (by omega) ?_ ?_
            · rfl
            · rfl
            · exact (Blk.new wd _ _).c0
            · have := T2.2.2.1.lt gi rfl; exact Nat.le_trans (Nat.le_of_lt (Nat.lt_of_succ_le this.1)) (Nat.le_of_lt this.2)
            intro v5 w5 V5 hg5 hb5
            have TI := T2.2.2.1.kept hg5 hne
            have hne5 := tx_ne hb5 hne T2.2.2.1
            have L5 := (T2.2.1.mono hB0).below_grown T2.1 hg5 T2.1.size
            refine hK _ _ ?_
            clear hK K
            clear T2 hb5 hg5
            refine wpAny_take (i := 17) (v := v5) rfl (by kernel_rfl) (by kernel_rfl) (by kernel_rfl) (fun _ _ _ h => h) (Or.inl ⟨by kernel_rfl, fun W => by first | rfl | go_simp⟩) ?_
            simp only [Act.put, List.getElem_toArray, List.getElem_cons_succ, List.getElem_cons_zero, List.setIfInBounds_toArray, List.set_cons_succ, List.set_cons_zero]
            refine wpAny_done (by kernel_rfl) ?_ _
            try simp only [List.getElem_toArray, List.getElem_cons_succ, List.getElem_cons_zero, List.setIfInBounds_toArray, List.set_cons_succ, List.set_cons_zero]
            clear T
            go_wp2_with fail
            go_roundw
            case rel => exact ⟨k + 1, by omega, by go_num, V5.toS (by rw [HS.out]), TI, hne5, L5⟩
            case measure => first | (simp [intOf]; done) | (simp [intOf]; omega)
        · have c0 := T.cell (p := ⟨g, i * 3, none⟩) hg C0.out
          go_simp
          clear c0
          refine hK _ _ ?_
          clear hK K
          refine wpAny_ready (rs := [6]) (by kernel_rfl) (by simp) ?_
          refine AllReady.cons rfl (fun K hK => ?_) AllReady.nil
          go_simp
          go_at_call 79
          refine (YR.out _).mono ?_
          rintro e wy ⟨rfl, hby⟩
          replace T := T.step hby
          clear hby
          refine hK _ _ ?_
          clear hK K
          refine wpAny_ready (rs := [7]) (by kernel_rfl) (by simp) ?_
          refine AllReady.cons rfl (fun K hK => ?_) AllReady.nil
          go_simp
          go_at_call 78
          refine (DC.out _ (HT.out.of T.1 (Nat.le_refl _))).mono ?_
          rintro e wd ⟨rfl, hbd⟩
          replace T := T.step hbd
          clear hbd
          refine hK _ _ ?_
          clear hK K
          refine wpAny_take (i := 8) (v := .string ⟨(D ++ [32]).toArray⟩) rfl (by kernel_rfl) (by kernel_rfl) (by kernel_rfl) (fun _ _ _ h => h) (Or.inl ⟨by kernel_rfl, fun W => by first | rfl | go_simp⟩) ?_
          simp only [Act.put, List.getElem_toArray, List.getElem_cons_succ, List.getElem_cons_zero, List.setIfInBounds_toArray, List.set_cons_succ, List.set_cons_zero]
          refine wpAny_take (i := 14) (v := .string ⟨(D ++ ([32] ++ x)).toArray⟩) rfl (by kernel_rfl) (by kernel_rfl) (by kernel_rfl) (fun _ _ _ h => h) (Or.inl ⟨by kernel_rfl, fun W => by first | rfl | go_simp⟩) ?_
          simp only [Act.put, List.getElem_toArray, List.getElem_cons_succ, List.getElem_cons_zero, List.setIfInBounds_toArray, List.set_cons_succ, List.set_cons_zero]
          refine wpAny_ready (rs := [15]) (by kernel_rfl) (by simp) ?_
          refine AllReady.cons rfl (fun K hK => ?_) AllReady.nil
          go_simp
          refine hK _ _ ?_
          clear hK K
          refine wpAny_ready (rs := [16]) (by kernel_rfl) (by simp) ?_
          refine AllReady.cons rfl (fun K hK => ?_) AllReady.nil
          have T2 := T.step (below_alloc wd (.cells #[.string ⟨(D ++ ([32] ++ x)).toArray⟩] 9))
          refine step_appS rfl _ _ rfl _ _ _ _ (D ++ ([32] ++ x)) ?_ T2.2.1 wd.heap.size ?_ ?_ (by omega) ?_ ?_
          · rfl
          · rfl
          · exact (Blk.new wd _ _).c0
          · have := T2.2.2.1.lt gi rfl; exact Nat.le_trans (Nat.le_of_lt (Nat.lt_of_succ_le this.1)) (Nat.le_of_lt this.2)
          intro v5 w5 V5 hg5 hb5
          have TI := T2.2.2.1.kept hg5 hne
          have hne5 := tx_ne hb5 hne T2.2.2.1
          have L5 := (T2.2.1.mono hB0).below_grown T2.1 hg5 T2.1.size
          refine hK _ _ ?_
          clear hK K
          clear T2 hb5 hg5
          refine wpAny_take (i := 17) (v := v5) rfl (by kernel_rfl) (by kernel_rfl) (by kernel_rfl) (fun _ _ _ h => h) (Or.inl ⟨by kernel_rfl, fun W => by first | rfl | go_simp⟩) ?_
          simp only [Act.put, List.getElem_toArray, List.getElem_cons_succ, List.getElem_cons_zero, List.setIfInBounds_toArray, List.set_cons_succ, List.set_cons_zero]
          refine wpAny_done (by kernel_rfl) ?_ _
          try simp only [List.getElem_toArray, List.getElem_cons_succ, List.getElem_cons_zero, List.setIfInBounds_toArray, List.set_cons_succ, List.set_cons_zero]
          clear T
          go_wp2_with fail
          go_roundw
          case rel => exact ⟨k + 1, by omega, by go_num, V5.toS (by rw [HS.out]), TI, hne5, L5⟩
          case measure => first | (simp [intOf]; done) | (simp [intOf]; omega)
      · have c0 := T.cell (p := ⟨g, i * 3, none⟩) hg C0.out
        go_simp
        clear c0
        refine hK _ _ ?_
        clear hK K
        refine wpAny_ready (rs := [4]) (by kernel_rfl) (by simp) ?_
        refine AllReady.cons rfl (fun K hK => ?_) AllReady.nil
        have c0 := T.cell (p := ⟨g, i * 3, none⟩) hg C0.out
        have c1 := T.cell (p := ⟨g, i * 3 + 1, none⟩) hg C1.out
        have c2 := T.cell (p := ⟨g, i * 3 + 2, none⟩) hg C2.out
        go_simp
        clear c0 c1 c2
        refine hK _ _ ?_
        clear hK K
        refine wpAny_ready (rs := [6]) (by kernel_rfl) (by simp) ?_
        refine AllReady.cons rfl (fun K hK => ?_) AllReady.nil
        go_simp
        go_at_call 79
        refine (YR.out _).mono ?_
        rintro e wy ⟨rfl, hby⟩
        replace T := T.step hby
        clear hby
        refine hK _ _ ?_
        clear hK K
        refine wpAny_ready (rs := [7]) (by kernel_rfl) (by simp) ?_
        refine AllReady.cons rfl (fun K hK => ?_) AllReady.nil
        go_simp
        go_at_call 78
        refine (DC.out _ (HT.out.of T.1 (Nat.le_refl _))).mono ?_
        rintro e wd ⟨rfl, hbd⟩
        replace T := T.step hbd
        clear hbd
        refine hK _ _ ?_
        clear hK K
        refine wpAny_take (i := 8) (v := .string ⟨(D ++ [32]).toArray⟩) rfl (by kernel_rfl) (by kernel_rfl) (by kernel_rfl) (fun _ _ _ h => h) (Or.inl ⟨by kernel_rfl, fun W => by first | rfl | go_simp⟩) ?_
        simp only [Act.put, List.getElem_toArray, List.getElem_cons_succ, List.getElem_cons_zero, List.setIfInBounds_toArray, List.set_cons_succ, List.set_cons_zero]
        refine wpAny_take (i := 14) (v := .string ⟨(D ++ ([32] ++ x)).toArray⟩) rfl (by kernel_rfl) (by kernel_rfl) (by kernel_rfl) (fun _ _ _ h => h) (Or.inl ⟨by kernel_rfl, fun W => by first | rfl | go_simp⟩) ?_
        simp only [Act.put, List.getElem_toArray, List.getElem_cons_succ, List.getElem_cons_zero, List.setIfInBounds_toArray, List.set_cons_succ, List.set_cons_zero]
        refine wpAny_ready (rs := [15]) (by kernel_rfl) (by simp) ?_
        refine AllReady.cons rfl (fun K hK => ?_) AllReady.nil
        go_simp
        refine hK _ _ ?_
        clear hK K
        refine wpAny_ready (rs := [16]) (by kernel_rfl) (by simp) ?_
        refine AllReady.cons rfl (fun K hK => ?_) AllReady.nil
        have T2 := T.step (below_alloc wd (.cells #[.string ⟨(D ++ ([32] ++ x)).toArray⟩] 9))
        refine step_appS rfl _ _ rfl _ _ _ _ (D ++ ([32] ++ x)) ?_ T2.2.1 wd.heap.size ?_ ?_ (by omega) ?_ ?_
        · rfl
        · rfl
        · exact (Blk.new wd _ _).c0
        · have := T2.2.2.1.lt gi rfl; exact Nat.le_trans (Nat.le_of_lt (Nat.lt_of_succ_le this.1)) (Nat.le_of_lt this.2)
        intro v5 w5 V5 hg5 hb5
        have TI := T2.2.2.1.kept hg5 hne
        have hne5 := tx_ne hb5 hne T2.2.2.1
        have L5 := (T2.2.1.mono hB0).below_grown T2.1 hg5 T2.1.size
        refine hK _ _ ?_
        clear hK K
        clear T2 hb5 hg5
        refine wpAny_take (i := 17) (v := v5) rfl (by kernel_rfl) (by kernel_rfl) (by kernel_rfl) (fun _ _ _ h => h) (Or.inl ⟨by kernel_rfl, fun W => by first | rfl | go_simp⟩) ?_
        simp only [Act.put, List.getElem_toArray, List.getElem_cons_succ, List.getElem_cons_zero, List.setIfInBounds_toArray, List.set_cons_succ, List.set_cons_zero]
        refine wpAny_done (by kernel_rfl) ?_ _
        try simp only [List.getElem_toArray, List.getElem_cons_succ, List.getElem_cons_zero, List.setIfInBounds_toArray, List.set_cons_succ, List.set_cons_zero]
        clear T
        go_wp2_with fail
        go_roundw
        case rel => exact ⟨k + 1, by omega, by go_num, V5.toS (by rw [HS.out]), TI, hne5, L5⟩
        case measure => first | (simp [intOf]; done) | (simp [intOf]; omega)
    · obtain rfl : k = no := by omega
      by_cases he : on = []
      · have h0 : k = 0 := by rw [← HON.out, he]; rfl
        subst h0
        have hR := HRR.out
        rw [if_pos he] at hR
        have HRR2 := Lib.hid hR
        obtain ⟨-, A2, c2, hv, -⟩ := V.opened
        rw [show (wdsT rs m (on.take 0)).length = 0 from by simp [wdsT]] at hv
        subst hv
        clear HRR hR
        go_wp2_with fail
        go_ret2
        exact ⟨by rw [← HRR2.out]; rfl, L⟩
      · have hR := HRR.out
        rw [if_neg he] at hR
        have HRR2 := Lib.hid hR
        have hk0 : 0 < k := by rw [← HON.out]; exact List.length_pos_iff.2 he
        have ht : on.take k = on := by rw [← HON.out, List.take_length]
        rw [ht] at V
        have SJ := Lib.hid (HSL.out wr _ _ V)
        obtain ⟨-, A2, c2, hv, -⟩ := V.opened
        rw [wdsT_len, HON.out] at hv
        subst hv
        have hk1 : ¬ (k : Int) = 0 := by omega
        clear HRR hR
        go_wp2_with fail
        refine SJ.out.mono ?_
        rintro e w5 ⟨rfl, hb5⟩
        go_wp2_with fail
        go_ret2
        exact ⟨by rw [← HRR2.out]; rfl, below_step L hb5⟩
end Go.Proofs.YtmpgokijlikddaaGreatDoor
