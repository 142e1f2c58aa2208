/- Texts put together: TxtS TxtF RlQ. No condition beyond those that stand in each. -/
import Derived.Test.YtmpgokijlikddaaGreatDoorRl7
import Derived.Test.YtmpgokijlikddaaGreatDoorRl8
import Derived.Test.YtmpgokijlikddaaGreatDoorDec
import Derived.Test.YtmpgokijlikddaaGreatDoorJoin
import Derived.IntWalk
import Derived.Test.YtmpgokijlikddaaGreatDoorTxtI
import Derived.Test.YtmpgokijlikddaaGreatDoorNmP
/- The text of the reigns of a day: the reference's function. Printed by gen_txt.py. Conditions: lengths that a machine can hold; how the list lies. -/
namespace Go.Proofs.YtmpgokijlikddaaGreatDoor
open Go.RowKit
set_option maxRecDepth 100000 in
set_option maxHeartbeats 8000000 in
set_option linter.unusedSimpArgs false in
theorem s_txt7 (g c : Nat) (rs : List RG) (m : Int) (w : World) (hR : RowR w g rs.length rs) (hn : rs.length ≤ 1048576) (hok : ∀ i, rgOk (rs.getD i rg0)) (hg : g < w.heap.size) (hA : areB rs = true) (hm : inB m 0 730499 = true) :
    Calls Tryz.prog 17 #[.slice (some ⟨g, 0, none⟩) rs.length c, .int .i64 m] w fun e w' => e = .returned (.tuple #[.string ⟨(if onK rs m rs.length = [] then [45] else Lib.join (wdsT rs m (onK rs m rs.length)) [44]).toArray⟩, .int .i64 0]) ∧ Below w.heap.size w w' := by
  have con := s_AreReigns g c rs w hR hn hok
  rw [hA] at con
  have con2 := fun W h => s_on7 g c rs m W h hn
  have SD := Lib.hid (fun W => toB (s_day m W) hm)
  have hn30 := (are_open hA).1
  have hop := (are_open hA).2
  have hin : 0 ≤ m ∧ m ≤ 730499 := by unfold inB at hm; simpa using hm
  have hnm := are_name hA
  have hwe := wdsT_each (are_name hA) (on_ky hA hm)
  have hol := onK_len rs m rs.length
  have hat := fun j (h : j < (onK rs m rs.length).length) => onK_at h
  obtain ⟨on, hon⟩ : ∃ on, onK rs m rs.length = on := ⟨_, rfl⟩
  rw [hon] at con2 hol hat hwe ⊢
  clear hon
  obtain ⟨R, hRR⟩ : ∃ R, (if on = [] then [45] else Lib.join (wdsT rs m on) [44]) = R := ⟨_, rfl⟩
  rw [hRR]
  have HRR := Lib.hid hRR
  have HW := Lib.hid (fun k h => wdsT_snoc rs m on k h)
  have HWI := Lib.hid (wdT_at rs m)
  have HSL := Lib.hid (fun (W : World) (B : Nat) (v : Value) (h : OwnS W B v (wdsT rs m on)) => s_join 44 W h (by rw [wdsT_len]; omega) hwe)
  have HAT := Lib.hid hat
  have HOP := Lib.hid hop
  have HNM := Lib.hid hnm
  obtain ⟨n, hnn⟩ : ∃ n, rs.length = n := ⟨_, rfl⟩
  rw [hnn] at con con2 hR hn hn30 hol HAT HOP ⊢
  have HLW := Lib.hid (fun k => (wdsT_len rs m (on.take k)))
  obtain ⟨no, hno⟩ : ∃ no, on.length = no := ⟨_, rfl⟩
  rw [hno] at hol HAT HW
  have HON := Lib.hid hno
  have HR := Lib.hid hR
  have CON := Lib.hid con
  have CON2 := Lib.hid con2
  clear con con2 hnn hRR hR hat hop hnm hA hm hok hn hwe
  go_enter Tryz.func17, Tryz.ntmps17
  go_wp2_with fail
  refine CON.out.mono ?_
  rintro e w1 ⟨rfl, hb⟩
  have hR2 := Lib.hid (HR.out.below hb hg)
  go_wp2_with fail
  refine (SD.out _).mono ?_
  rintro e w2 ⟨rfl, rfl⟩
  go_wp2_with fail
  refine (CON2.out _ hR2.out).mono ?_
  rintro e w2 ⟨vn, rfl, oI, hb2⟩
  have L2 := below_step hb hb2
  have hB0 : w.heap.size ≤ w2.heap.size := L2.size
  have L3 := L2.trans ((below_alloc w2 (.cells #[] 9)).mono hB0)
  have V0 := OwnS.lit w2 w2.heap.size #[] [] rfl (Nat.le_refl _) (by decide)
  have hne0 : vn.ownBlock = none ∨ vn.ownBlock ≠ (Value.slice (some ⟨w2.heap.size, 0, none⟩) 0 0).ownBlock := tx_ne (vo := .slice none 0 0) (.inr rfl) (by cases h : vn.ownBlock <;> simp [Value.ownBlock]) oI
  have oI2 := oI.alloc (.cells #[] 9)
  clear CON CON2 hb hb2 L2 hR2 oI SD
  obtain ⟨-, A, cc, rfl, -⟩ := oI2.opened
  rw [HON.out] at oI2 hne0 ⊢
  go_wp2_with fail
  go_loopw [7, 8] (fun o q wr => ∃ k : Nat, k ≤ no ∧ q = .int .i64 k ∧ OwnS wr w2.heap.size o (wdsT rs m (on.take k)) ∧ OwnI wr w1.heap.size (.slice A no cc) on ∧ ((Value.slice A no cc).ownBlock = none ∨ (Value.slice A no cc).ownBlock ≠ o.ownBlock) ∧ Below w.heap.size w wr ∧ w2.heap.size ≤ wr.heap.size) (fun _ q _ => no - (intOf q).toNat)
  case atStart => exact ⟨0, by omega, rfl, by simpa [wdsT] using V0, oI2, hne0, L3, by simp⟩
  case round =>
    clear V0 oI2 hne0 L3
    obtain ⟨k, hk, rfl, V, OI, hne, L, hb0⟩ := hrel
    have hw := L.size
    by_cases hlt : k < no
    · as_aux_lemma =>
      obtain ⟨-, A', c', hv, PP⟩ := OI.opened
      injection hv with hv1 hv2 hv3
      obtain ⟨gi, hgi, hgi0, hgi1, hci, -⟩ := PP (by rw [HON.out]; omega)
      subst hv1
      subst hgi
      have hkl : k < on.length := by rw [HON.out]; exact hlt
      have d0 : wr.cell? ⟨gi, k, none⟩ = some (.int .i64 (on.getD k 0)) := by
        have := hci k hkl
        rw [this]
        simp [hkl]
      clear hkl
      have HS := Lib.hid (HW.out k hlt)
      have hlw := HLW.out k
      obtain ⟨i, hi, he, hf, hf2⟩ := HAT.out k hlt
      rw [he] at d0 HS
      obtain ⟨hgg, hcc⟩ := HR.out (by omega)
      obtain ⟨h0, h1, h2⟩ := hcc i hi
      obtain ⟨o0, o1, o2⟩ := HOP.out i hi
      have hnm := HNM.out i
      rw [HWI.out i] at HS
      obtain ⟨p, hp⟩ : ∃ p, rs.getD i rg0 = p := ⟨_, rfl⟩
      rw [hp] at h0 h1 h2 o0 o1 o2 hf hf2 HS hnm
      obtain ⟨x, f, t⟩ := p
      dsimp only at h0 h1 h2 o0 o1 o2 hf hf2 HS hnm
      have c0 := (L.cell (p := ⟨g, i * 3, none⟩) hgg).trans h0
      have c1 := (L.cell (p := ⟨g, i * 3 + 1, none⟩) hgg).trans h1
      have c2 := (L.cell (p := ⟨g, i * 3 + 2, none⟩) hgg).trans h2
      have X := Blk.new wr 90 #[.string ⟨x.toArray⟩, .int .i64 f, .int .i64 t]
      have C0 := Lib.hid X.c0
      have C1 := Lib.hid X.c1
      have C2 := Lib.hid X.c2
      clear X
      obtain ⟨kb1, kb2, -, -⟩ := ky_bd f m o0 hf hin.2
      have hyr : ((ky f m).toNat : Int) = ky f m := by omega
      have yr := fun W => s_year7 ⟨x.toArray⟩ f t m W o0 hf hin.2
      rw [← hyr] at yr
      have YR := Lib.hid yr
      have DC := Lib.hid (fun W => s_dec (ky f m).toNat W (by omega))
      obtain ⟨D, hD⟩ : ∃ D, Lib.decDigits (ky f m).toNat = D := ⟨_, rfl⟩
      have hDl : D.length ≤ 20 := by rw [← hD, Lib.decDigits_length]; exact Lib.nDigits_le20 _ (by omega)
      obtain ⟨kk, hkk⟩ : ∃ kk, (ky f m).toNat = kk := ⟨_, rfl⟩
      rw [hkk] at YR DC hD
      rw [hD] at DC
      rw [hkk, hD] at HS
      have T : TxW w (wr.alloc (.cells #[.string ⟨x.toArray⟩, .int .i64 f, .int .i64 t] 90)) (wr.alloc (.cells #[.string ⟨x.toArray⟩, .int .i64 f, .int .i64 t] 90)) w2.heap.size _ _ w1.heap.size _ _ := ⟨below_more L hw _, V.alloc _, OI.alloc _, Below.refl _ _⟩
      have hlen : (wdsT rs m (on.take k)).length ≤ 1000 := by rw [hlw]; simp; omega
      have hq1 : ¬ 9223372036854775807 < D.length + 1 := by omega
      have hq2 : ¬ 9223372036854775807 < D.length + 1 + x.length := by omega
      have hq3 := bapp D [32]
      have hq4 := bapp (D ++ [32]) x
      rw [List.append_assoc] at hq4
      have hg := hgg
      have hgw : g < wr.heap.size := Nat.lt_of_lt_of_le hg hw
      obtain ⟨xs, hxs⟩ : ∃ xs, wdsT rs m (on.take k) = xs := ⟨_, rfl⟩
      rw [hxs] at T hlen HS
      clear hcc h0 h1 h2 hp yr hkk hD hxs hlw PP hci V OI he hv2 hv3 hyr kb1 kb2 hin
      go_wp2_with fail
      clear c0 c1 c2
      replace T := T.drew
      refine wp_region_any (by kernel_rfl) ?_
      change wpAny _ _ _ _ _ _ _ (World.drew _)
      refine wpAny_take (i := 0) (v := _) rfl (by kernel_rfl) (by kernel_rfl) (by kernel_rfl) (fun _ _ _ h => h) (Or.inl ⟨by kernel_rfl, fun W => by first | rfl | go_simp⟩) ?_
      simp only [Act.put, List.getElem_toArray, List.getElem_cons_succ, List.getElem_cons_zero, List.setIfInBounds_toArray, List.set_cons_succ, List.set_cons_zero]
      refine wpAny_take (i := 2) (v := .int .i64 m) rfl (by kernel_rfl) (by kernel_rfl) (by kernel_rfl) (fun _ _ _ h => h) (Or.inl ⟨by kernel_rfl, fun W => by first | rfl | go_simp⟩) ?_
      simp only [Act.put, List.getElem_toArray, List.getElem_cons_succ, List.getElem_cons_zero, List.setIfInBounds_toArray, List.set_cons_succ, List.set_cons_zero]
      refine wpAny_take (i := 6) (v := .pointer (some ⟨wr.heap.size, 0, none⟩)) rfl (by kernel_rfl) (by kernel_rfl) (by kernel_rfl) (fun _ _ _ h => h) (Or.inl ⟨by kernel_rfl, fun W => by first | rfl | go_simp⟩) ?_
      simp only [Act.put, List.getElem_toArray, List.getElem_cons_succ, List.getElem_cons_zero, List.setIfInBounds_toArray, List.set_cons_succ, List.set_cons_zero]
      refine wpAny_ready (rs := [1, 7]) (by kernel_rfl) (by simp) ?_
      refine AllReady.cons rfl (fun K hK => ?_) (AllReady.cons rfl (fun K hK => ?_) AllReady.nil)
      · have c0 := T.cell1 (p := ⟨wr.heap.size, 0, none⟩) (by simp) C0.out
        have c1 := T.cell1 (p := ⟨wr.heap.size, 1, none⟩) (by simp) C1.out
        have c2 := T.cell1 (p := ⟨wr.heap.size, 2, none⟩) (by simp) C2.out
        go_simp
        clear c0 c1 c2
        refine hK _ _ ?_
        clear hK K
        refine wpAny_ready (rs := [3, 7]) (by kernel_rfl) (by simp) ?_
        refine AllReady.cons rfl (fun K hK => ?_) (AllReady.cons rfl (fun K hK => ?_) AllReady.nil)
        · go_simp
          go_at_call 82
          refine (YR.out _).mono ?_
          rintro e wy ⟨rfl, hby⟩
          replace T := T.step hby
          clear hby
          refine hK _ _ ?_
          clear hK K
          refine wpAny_ready (rs := [4, 7]) (by kernel_rfl) (by simp) ?_
          refine AllReady.cons rfl (fun K hK => ?_) (AllReady.cons rfl (fun K hK => ?_) AllReady.nil)
          · go_simp
            go_at_call 81
            refine (DC.out _).mono ?_
            rintro e wd ⟨rfl, hbd⟩
            replace T := T.step hbd
            clear hbd
            refine hK _ _ ?_
            clear hK K
            refine wpAny_take (i := 5) (v := .string ⟨(D ++ [32]).toArray⟩) rfl (by kernel_rfl) (by kernel_rfl) (by kernel_rfl) (fun _ _ _ h => h) (Or.inl ⟨by kernel_rfl, fun W => by first | rfl | go_simp⟩) ?_
            simp only [Act.put, List.getElem_toArray, List.getElem_cons_succ, List.getElem_cons_zero, List.setIfInBounds_toArray, List.set_cons_succ, List.set_cons_zero]
            refine wpAny_ready (rs := [7]) (by kernel_rfl) (by simp) ?_
            refine AllReady.cons rfl (fun K hK => ?_) AllReady.nil
            have c0 := T.cell1 (p := ⟨wr.heap.size, 0, none⟩) (by simp) C0.out
            go_simp
            clear c0
            refine hK _ _ ?_
            clear hK K
            refine wpAny_take (i := 8) (v := .string ⟨(D ++ ([32] ++ x)).toArray⟩) rfl (by kernel_rfl) (by kernel_rfl) (by kernel_rfl) (fun _ _ _ h => h) (Or.inl ⟨by kernel_rfl, fun W => by first | rfl | go_simp⟩) ?_
            simp only [Act.put, List.getElem_toArray, List.getElem_cons_succ, List.getElem_cons_zero, List.setIfInBounds_toArray, List.set_cons_succ, List.set_cons_zero]
            refine wpAny_ready (rs := [9]) (by kernel_rfl) (by simp) ?_
            refine AllReady.cons rfl (fun K hK => ?_) AllReady.nil
            go_simp
            refine hK _ _ ?_
            clear hK K
            refine wpAny_ready (rs := [10]) (by kernel_rfl) (by simp) ?_
            refine AllReady.cons rfl (fun K hK => ?_) AllReady.nil
            have T2 := T.step (below_alloc wd (.cells #[.string ⟨(D ++ ([32] ++ x)).toArray⟩] 9))
            refine step_appS rfl _ _ rfl _ _ _ _ (D ++ ([32] ++ x)) ?_ T2.2.1 wd.heap.size ?_ ?_ (by omega) ?_ ?_
            · rfl
            · rfl
            · exact (Blk.new wd _ _).c0
            · exact Nat.le_trans hb0 (Nat.le_trans (by simp) T2.2.2.2.size)
            intro v5 w5 V5 hg5 hb5
            have TI := T2.2.2.1.kept hg5 hne
            have hne5 := tx_ne hb5 hne T2.2.2.1
            have L5 := (T2.2.1.mono hB0).below_grown T2.1 hg5 T2.1.size
            have hB5 := Nat.le_trans hb0 (Nat.le_trans (show wr.heap.size ≤ (wr.alloc (.cells #[.string ⟨x.toArray⟩, .int .i64 f, .int .i64 t] 90)).heap.size from by simp) (Nat.le_trans T2.2.2.2.size hg5.size))
            refine hK _ _ ?_
            clear hK K
            clear T2 hb5 hg5
            refine wpAny_take (i := 11) (v := v5) rfl (by kernel_rfl) (by kernel_rfl) (by kernel_rfl) (fun _ _ _ h => h) (Or.inl ⟨by kernel_rfl, fun W => by first | rfl | go_simp⟩) ?_
            simp only [Act.put, List.getElem_toArray, List.getElem_cons_succ, List.getElem_cons_zero, List.setIfInBounds_toArray, List.set_cons_succ, List.set_cons_zero]
            refine wpAny_done (by kernel_rfl) ?_ _
            try simp only [List.getElem_toArray, List.getElem_cons_succ, List.getElem_cons_zero, List.setIfInBounds_toArray, List.set_cons_succ, List.set_cons_zero]
            clear T
            go_wp2_with fail
            go_roundw
            case rel => exact ⟨k + 1, by omega, by go_num, V5.toS (by rw [HS.out]), TI, hne5, L5, hB5⟩
            case measure => first | (simp [intOf]; done) | (simp [intOf]; omega)
          · have c0 := T.cell1 (p := ⟨wr.heap.size, 0, none⟩) (by simp) C0.out
            go_simp
            clear c0
            refine hK _ _ ?_
            clear hK K
            refine wpAny_ready (rs := [4]) (by kernel_rfl) (by simp) ?_
            refine AllReady.cons rfl (fun K hK => ?_) AllReady.nil
            go_simp
            go_at_call 81
            refine (DC.out _).mono ?_
            rintro e wd ⟨rfl, hbd⟩
            replace T := T.step hbd
            clear hbd
            refine hK _ _ ?_
            clear hK K
            refine wpAny_take (i := 5) (v := .string ⟨(D ++ [32]).toArray⟩) rfl (by kernel_rfl) (by kernel_rfl) (by kernel_rfl) (fun _ _ _ h => h) (Or.inl ⟨by kernel_rfl, fun W => by first | rfl | go_simp⟩) ?_
            simp only [Act.put, List.getElem_toArray, List.getElem_cons_succ, List.getElem_cons_zero, List.setIfInBounds_toArray, List.set_cons_succ, List.set_cons_zero]
            refine wpAny_take (i := 8) (v := .string ⟨(D ++ ([32] ++ x)).toArray⟩) rfl (by kernel_rfl) (by kernel_rfl) (by kernel_rfl) (fun _ _ _ h => h) (Or.inl ⟨by kernel_rfl, fun W => by first | rfl | go_simp⟩) ?_
            simp only [Act.put, List.getElem_toArray, List.getElem_cons_succ, List.getElem_cons_zero, List.setIfInBounds_toArray, List.set_cons_succ, List.set_cons_zero]
            refine wpAny_ready (rs := [9]) (by kernel_rfl) (by simp) ?_
            refine AllReady.cons rfl (fun K hK => ?_) AllReady.nil
            go_simp
            refine hK _ _ ?_
            clear hK K
            refine wpAny_ready (rs := [10]) (by kernel_rfl) (by simp) ?_
            refine AllReady.cons rfl (fun K hK => ?_) AllReady.nil
            have T2 := T.step (below_alloc wd (.cells #[.string ⟨(D ++ ([32] ++ x)).toArray⟩] 9))
            refine step_appS rfl _ _ rfl _ _ _ _ (D ++ ([32] ++ x)) ?_ T2.2.1 wd.heap.size ?_ ?_ (by omega) ?_ ?_
            · rfl
            · rfl
            · exact (Blk.new wd _ _).c0
            · exact Nat.le_trans hb0 (Nat.le_trans (by simp) T2.2.2.2.size)
            intro v5 w5 V5 hg5 hb5
            have TI := T2.2.2.1.kept hg5 hne
            have hne5 := tx_ne hb5 hne T2.2.2.1
            have L5 := (T2.2.1.mono hB0).below_grown T2.1 hg5 T2.1.size
            have hB5 := Nat.le_trans hb0 (Nat.le_trans (show wr.heap.size ≤ (wr.alloc (.cells #[.string ⟨x.toArray⟩, .int .i64 f, .int .i64 t] 90)).heap.size from by simp) (Nat.le_trans T2.2.2.2.size hg5.size))
            refine hK _ _ ?_
            clear hK K
            clear T2 hb5 hg5
            refine wpAny_take (i := 11) (v := v5) rfl (by kernel_rfl) (by kernel_rfl) (by kernel_rfl) (fun _ _ _ h => h) (Or.inl ⟨by kernel_rfl, fun W => by first | rfl | go_simp⟩) ?_
            simp only [Act.put, List.getElem_toArray, List.getElem_cons_succ, List.getElem_cons_zero, List.setIfInBounds_toArray, List.set_cons_succ, List.set_cons_zero]
            refine wpAny_done (by kernel_rfl) ?_ _
            try simp only [List.getElem_toArray, List.getElem_cons_succ, List.getElem_cons_zero, List.setIfInBounds_toArray, List.set_cons_succ, List.set_cons_zero]
            clear T
            go_wp2_with fail
            go_roundw
            case rel => exact ⟨k + 1, by omega, by go_num, V5.toS (by rw [HS.out]), TI, hne5, L5, hB5⟩
            case measure => first | (simp [intOf]; done) | (simp [intOf]; omega)
        · have c0 := T.cell1 (p := ⟨wr.heap.size, 0, none⟩) (by simp) C0.out
          go_simp
          clear c0
          refine hK _ _ ?_
          clear hK K
          refine wpAny_ready (rs := [3]) (by kernel_rfl) (by simp) ?_
          refine AllReady.cons rfl (fun K hK => ?_) AllReady.nil
          go_simp
          go_at_call 82
          refine (YR.out _).mono ?_
          rintro e wy ⟨rfl, hby⟩
          replace T := T.step hby
          clear hby
          refine hK _ _ ?_
          clear hK K
          refine wpAny_ready (rs := [4]) (by kernel_rfl) (by simp) ?_
          refine AllReady.cons rfl (fun K hK => ?_) AllReady.nil
          go_simp
          go_at_call 81
          refine (DC.out _).mono ?_
          rintro e wd ⟨rfl, hbd⟩
          replace T := T.step hbd
          clear hbd
          refine hK _ _ ?_
          clear hK K
          refine wpAny_take (i := 5) (v := .string ⟨(D ++ [32]).toArray⟩) rfl (by kernel_rfl) (by kernel_rfl) (by kernel_rfl) (fun _ _ _ h => h) (Or.inl ⟨by kernel_rfl, fun W => by first | rfl | go_simp⟩) ?_
          simp only [Act.put, List.getElem_toArray, List.getElem_cons_succ, List.getElem_cons_zero, List.setIfInBounds_toArray, List.set_cons_succ, List.set_cons_zero]
          refine wpAny_take (i := 8) (v := .string ⟨(D ++ ([32] ++ x)).toArray⟩) rfl (by kernel_rfl) (by kernel_rfl) (by kernel_rfl) (fun _ _ _ h => h) (Or.inl ⟨by kernel_rfl, fun W => by first | rfl | go_simp⟩) ?_
          simp only [Act.put, List.getElem_toArray, List.getElem_cons_succ, List.getElem_cons_zero, List.setIfInBounds_toArray, List.set_cons_succ, List.set_cons_zero]
          refine wpAny_ready (rs := [9]) (by kernel_rfl) (by simp) ?_
          refine AllReady.cons rfl (fun K hK => ?_) AllReady.nil
          go_simp
          refine hK _ _ ?_
          clear hK K
          refine wpAny_ready (rs := [10]) (by kernel_rfl) (by simp) ?_
          refine AllReady.cons rfl (fun K hK => ?_) AllReady.nil
          have T2 := T.step (below_alloc wd (.cells #[.string ⟨(D ++ ([32] ++ x)).toArray⟩] 9))
          refine step_appS rfl _ _ rfl _ _ _ _ (D ++ ([32] ++ x)) ?_ T2.2.1 wd.heap.size ?_ ?_ (by omega) ?_ ?_
          · rfl
          · rfl
          · exact (Blk.new wd _ _).c0
          · exact Nat.le_trans hb0 (Nat.le_trans (by simp) T2.2.2.2.size)
          intro v5 w5 V5 hg5 hb5
          have TI := T2.2.2.1.kept hg5 hne
          have hne5 := tx_ne hb5 hne T2.2.2.1
          have L5 := (T2.2.1.mono hB0).below_grown T2.1 hg5 T2.1.size
          have hB5 := Nat.le_trans hb0 (Nat.le_trans (show wr.heap.size ≤ (wr.alloc (.cells #[.string ⟨x.toArray⟩, .int .i64 f, .int .i64 t] 90)).heap.size from by simp) (Nat.le_trans T2.2.2.2.size hg5.size))
          refine hK _ _ ?_
          clear hK K
          clear T2 hb5 hg5
          refine wpAny_take (i := 11) (v := v5) rfl (by kernel_rfl) (by kernel_rfl) (by kernel_rfl) (fun _ _ _ h => h) (Or.inl ⟨by kernel_rfl, fun W => by first | rfl | go_simp⟩) ?_
          simp only [Act.put, List.getElem_toArray, List.getElem_cons_succ, List.getElem_cons_zero, List.setIfInBounds_toArray, List.set_cons_succ, List.set_cons_zero]
          refine wpAny_done (by kernel_rfl) ?_ _
          try simp only [List.getElem_toArray, List.getElem_cons_succ, List.getElem_cons_zero, List.setIfInBounds_toArray, List.set_cons_succ, List.set_cons_zero]
          clear T
          go_wp2_with fail
          go_roundw
          case rel => exact ⟨k + 1, by omega, by go_num, V5.toS (by rw [HS.out]), TI, hne5, L5, hB5⟩
          case measure => first | (simp [intOf]; done) | (simp [intOf]; omega)
      · have c0 := T.cell1 (p := ⟨wr.heap.size, 0, none⟩) (by simp) C0.out
        go_simp
        clear c0
        refine hK _ _ ?_
        clear hK K
        refine wpAny_ready (rs := [1]) (by kernel_rfl) (by simp) ?_
        refine AllReady.cons rfl (fun K hK => ?_) AllReady.nil
        have c0 := T.cell1 (p := ⟨wr.heap.size, 0, none⟩) (by simp) C0.out
        have c1 := T.cell1 (p := ⟨wr.heap.size, 1, none⟩) (by simp) C1.out
        have c2 := T.cell1 (p := ⟨wr.heap.size, 2, none⟩) (by simp) C2.out
        go_simp
        clear c0 c1 c2
        refine hK _ _ ?_
        clear hK K
        refine wpAny_ready (rs := [3]) (by kernel_rfl) (by simp) ?_
        refine AllReady.cons rfl (fun K hK => ?_) AllReady.nil
        go_simp
        go_at_call 82
        refine (YR.out _).mono ?_
        rintro e wy ⟨rfl, hby⟩
        replace T := T.step hby
        clear hby
        refine hK _ _ ?_
        clear hK K
        refine wpAny_ready (rs := [4]) (by kernel_rfl) (by simp) ?_
        refine AllReady.cons rfl (fun K hK => ?_) AllReady.nil
        go_simp
        go_at_call 81
        refine (DC.out _).mono ?_
        rintro e wd ⟨rfl, hbd⟩
        replace T := T.step hbd
        clear hbd
        refine hK _ _ ?_
        clear hK K
        refine wpAny_take (i := 5) (v := .string ⟨(D ++ [32]).toArray⟩) rfl (by kernel_rfl) (by kernel_rfl) (by kernel_rfl) (fun _ _ _ h => h) (Or.inl ⟨by kernel_rfl, fun W => by first | rfl | go_simp⟩) ?_
        simp only [Act.put, List.getElem_toArray, List.getElem_cons_succ, List.getElem_cons_zero, List.setIfInBounds_toArray, List.set_cons_succ, List.set_cons_zero]
        refine wpAny_take (i := 8) (v := .string ⟨(D ++ ([32] ++ x)).toArray⟩) rfl (by kernel_rfl) (by kernel_rfl) (by kernel_rfl) (fun _ _ _ h => h) (Or.inl ⟨by kernel_rfl, fun W => by first | rfl | go_simp⟩) ?_
        simp only [Act.put, List.getElem_toArray, List.getElem_cons_succ, List.getElem_cons_zero, List.setIfInBounds_toArray, List.set_cons_succ, List.set_cons_zero]
        refine wpAny_ready (rs := [9]) (by kernel_rfl) (by simp) ?_
        refine AllReady.cons rfl (fun K hK => ?_) AllReady.nil
        go_simp
        refine hK _ _ ?_
        clear hK K
        refine wpAny_ready (rs := [10]) (by kernel_rfl) (by simp) ?_
        refine AllReady.cons rfl (fun K hK => ?_) AllReady.nil
        have T2 := T.step (below_alloc wd (.cells #[.string ⟨(D ++ ([32] ++ x)).toArray⟩] 9))
        refine step_appS rfl _ _ rfl _ _ _ _ (D ++ ([32] ++ x)) ?_ T2.2.1 wd.heap.size ?_ ?_ (by omega) ?_ ?_
        · rfl
        · rfl
        · exact (Blk.new wd _ _).c0
        · exact Nat.le_trans hb0 (Nat.le_trans (by simp) T2.2.2.2.size)
        intro v5 w5 V5 hg5 hb5
        have TI := T2.2.2.1.kept hg5 hne
        have hne5 := tx_ne hb5 hne T2.2.2.1
        have L5 := (T2.2.1.mono hB0).below_grown T2.1 hg5 T2.1.size
        have hB5 := Nat.le_trans hb0 (Nat.le_trans (show wr.heap.size ≤ (wr.alloc (.cells #[.string ⟨x.toArray⟩, .int .i64 f, .int .i64 t] 90)).heap.size from by simp) (Nat.le_trans T2.2.2.2.size hg5.size))
        refine hK _ _ ?_
        clear hK K
        clear T2 hb5 hg5
        refine wpAny_take (i := 11) (v := v5) rfl (by kernel_rfl) (by kernel_rfl) (by kernel_rfl) (fun _ _ _ h => h) (Or.inl ⟨by kernel_rfl, fun W => by first | rfl | go_simp⟩) ?_
        simp only [Act.put, List.getElem_toArray, List.getElem_cons_succ, List.getElem_cons_zero, List.setIfInBounds_toArray, List.set_cons_succ, List.set_cons_zero]
        refine wpAny_done (by kernel_rfl) ?_ _
        try simp only [List.getElem_toArray, List.getElem_cons_succ, List.getElem_cons_zero, List.setIfInBounds_toArray, List.set_cons_succ, List.set_cons_zero]
        clear T
        go_wp2_with fail
        go_roundw
        case rel => exact ⟨k + 1, by omega, by go_num, V5.toS (by rw [HS.out]), TI, hne5, L5, hB5⟩
        case measure => first | (simp [intOf]; done) | (simp [intOf]; omega)
    · obtain rfl : k = no := by omega
      by_cases he : on = []
      · have h0 : k = 0 := by rw [← HON.out, he]; rfl
        subst h0
        have hR := HRR.out
        rw [if_pos he] at hR
        have HRR2 := Lib.hid hR
        obtain ⟨-, A2, c2, hv, -⟩ := V.opened
        rw [show (wdsT rs m (on.take 0)).length = 0 from by simp [wdsT]] at hv
        subst hv
        clear HRR hR
        go_wp2_with fail
        go_ret2
        exact ⟨by rw [← HRR2.out]; rfl, L⟩
      · have hR := HRR.out
        rw [if_neg he] at hR
        have HRR2 := Lib.hid hR
        have hk0 : 0 < k := by rw [← HON.out]; exact List.length_pos_iff.2 he
        have ht : on.take k = on := by rw [← HON.out, List.take_length]
        rw [ht] at V
        have SJ := Lib.hid (HSL.out wr _ _ V)
        obtain ⟨-, A2, c2, hv, -⟩ := V.opened
        rw [wdsT_len, HON.out] at hv
        subst hv
        have hk1 : ¬ (k : Int) = 0 := by omega
        clear HRR hR
        go_wp2_with fail
        refine SJ.out.mono ?_
        rintro e w5 ⟨rfl, rfl⟩
        go_wp2_with fail
        go_ret2
        exact ⟨by rw [← HRR2.out]; rfl, L⟩
end Go.Proofs.YtmpgokijlikddaaGreatDoor
/- RegnalText: the program's and the reference's functions return what the plain function says. Conditions: lengths that a machine can hold; how the list lies; for the program, the table of powers as it was laid. -/
namespace Go.Proofs.YtmpgokijlikddaaGreatDoor
open Go.RowKit
theorem tx_1 {rs : List RG} {m : Int} (h : areB rs = false) : txF rs m = ([], 1) := by unfold txF; rw [h]; rfl
theorem tx_2 {rs : List RG} {m : Int} (h : areB rs = true) (h2 : inB m 0 730499 = false) : txF rs m = ([], 2) := by unfold txF; rw [h, h2]; rfl
theorem tx_0 {rs : List RG} {m : Int} (h : areB rs = true) (h2 : inB m 0 730499 = true) : txF rs m = ((if onK rs m rs.length = [] then [45] else Lib.join (wdsT rs m (onK rs m rs.length)) [44]), 0) := by unfold txF; rw [h, h2]; rfl
set_option maxRecDepth 100000 in
theorem i_RegnalText (g c : Nat) (rs : List RG) (m : Int) (w : World) (hR : RowR w g rs.length rs) (hn : rs.length ≤ 1048576) (hok : ∀ i, rgOk (rs.getD i rg0)) (hg : g < w.heap.size) (ht : Tab w) :
    Calls Tryz.prog 16 #[.slice (some ⟨g, 0, none⟩) rs.length c, .int .i64 m] w fun e w' => e = .returned (.tuple #[.string ⟨(txF rs m).1.toArray⟩, .int .i64 (txF rs m).2]) ∧ Below w.heap.size w w' := by
  have con := fun gd W h1 h2 h3 => i_chk g c gd rs m W h1 hn hok h2 h3
  have hA1 := (below_alloc w (.cells #[.int .i64 m] 2))
  have hR1 := hR.below hA1 hg
  have hcase : (areB rs = true ∧ inB m 0 730499 = true) ∨ (∃ k, (onF rs m).2 = k ∧ txF rs m = ([], k) ∧ (k = 1 ∨ k = 2)) := by
    cases h1 : areB rs
    · exact .inr ⟨1, by unfold onF; rw [h1]; rfl, tx_1 h1, .inl rfl⟩
    · cases h2 : inB m 0 730499
      · exact .inr ⟨2, by unfold onF; rw [h1, h2]; rfl, tx_2 h1 h2, .inr rfl⟩
      · exact .inl ⟨rfl, rfl⟩
  rcases hcase with ⟨h1, h2⟩ | ⟨k, hk, hF, hk'⟩
  · rw [tx_0 h1 h2]
    exact i_txt7 g c rs m w hR hn hok hg ht h1 h2
  · rw [hF]
    rw [hk] at con
    have CON := Lib.hid con
    have HR1 := Lib.hid hR1
    clear con hk hF hR1 hR ht
    obtain ⟨n, hnn⟩ : ∃ n, rs.length = n := ⟨_, rfl⟩
    rw [hnn] at CON HR1 ⊢
    clear hnn hn hok
    rcases hk' with rfl | rfl
    all_goals
      go_enter Tryz.func16, Tryz.ntmps16
      go_wp2_with fail
      refine (CON.out _ _ HR1.out (by simp) (Blk.new w _ _).c0).mono ?_
      rintro e w1 ⟨rfl, hb⟩
      have L1 := hA1.trans (hb.mono (by simp))
      go_wp2_with fail
      go_ret2
      exact ⟨rfl, L1⟩
set_option maxRecDepth 100000 in
theorem s_RegnalText (g c : Nat) (rs : List RG) (m : Int) (w : World) (hR : RowR w g rs.length rs) (hn : rs.length ≤ 1048576) (hok : ∀ i, rgOk (rs.getD i rg0)) (hg : g < w.heap.size) :
    Calls Tryz.prog 17 #[.slice (some ⟨g, 0, none⟩) rs.length c, .int .i64 m] w fun e w' => e = .returned (.tuple #[.string ⟨(txF rs m).1.toArray⟩, .int .i64 (txF rs m).2]) ∧ Below w.heap.size w w' := by
  have con := s_AreReigns g c rs w hR hn hok
  cases h1 : areB rs with
  | false =>
    rw [tx_1 h1]
    rw [h1] at con
    have CON := Lib.hid con
    clear con h1
    go_enter Tryz.func17, Tryz.ntmps17
    go_wp2_with fail
    refine CON.out.mono ?_
    rintro e w1 ⟨rfl, hb⟩
    go_wp2_with fail
    go_ret2
    exact ⟨rfl, hb⟩
  | true =>
    cases h2 : inB m 0 730499 with
    | true =>
      rw [tx_0 h1 h2]
      exact s_txt7 g c rs m w hR hn hok hg h1 h2
    | false =>
      rw [tx_2 h1 h2]
      rw [h1] at con
      have CON := Lib.hid con
      have SD := Lib.hid (fun W => toB (s_day m W) h2)
      clear con h1 h2
      go_enter Tryz.func17, Tryz.ntmps17
      go_wp2_with fail
      refine CON.out.mono ?_
      rintro e w1 ⟨rfl, hb⟩
      go_wp2_with fail
      refine (SD.out _).mono ?_
      rintro e w2 ⟨rfl, rfl⟩
      go_wp2_with fail
      go_ret2
      exact ⟨rfl, hb⟩
end Go.Proofs.YtmpgokijlikddaaGreatDoor
/- Lists of reigns, plainly: drawn reigns are reigns of a machine; the text of a day is '-' when no reign has it. No condition. -/
namespace Go.Proofs.YtmpgokijlikddaaGreatDoor
open Go.RowKit
theorem wf_i64 {x : Int} (h0 : -9223372036854775808 ≤ x) (h1 : x ≤ 9223372036854775807) : (Lit.int .i64 x).wf = true := by
  simp only [Lit.wf, Bool.and_eq_true, decide_eq_true_eq]
  have a : IntKind.i64.wrap x = x := IntWalk.i64_in _ (by omega)
  first | exact a | (constructor <;> first | exact h0 | exact h1 | omega) | (simp [a]; done) | omega
theorem rgB_ok {r : RG} (h : rgB r) : rgOk r := by
  obtain ⟨a, b, c, d, e⟩ := h
  exact ⟨by omega, wf_i64 (by omega) (by omega), wf_i64 (by omega) (by omega)⟩
theorem rgB_all {l : List RG} (h : ∀ r ∈ l, rgB r) (i : Nat) : rgOk (l.getD i rg0) := by
  by_cases hi : i < l.length
  · have e : l.getD i rg0 = l[i] := by simp [hi]
    rw [e]; exact rgB_ok (h _ (List.getElem_mem hi))
  · rw [List.getD_eq_getElem?_getD, List.getElem?_eq_none (by omega)]
    exact ⟨by decide, wf_i64 (by decide) (by decide), wf_i64 (by decide) (by decide)⟩
theorem join_dash (rs : List RG) (m : Int) (l : List Int) (h : l ≠ []) : Lib.join (wdsT rs m l) [44] ≠ [45] := by
  cases l with
  | nil => exact absurd rfl h
  | cons x r =>
    intro e
    have h1 := dec_ne (ky (rs.getD x.toNat rg0).2.1 m).toNat
    have h2 := dg_dec (ky (rs.getD x.toNat rg0).2.1 m).toNat
    have e2 : wdsT rs m (x :: r) = wdT rs m x :: wdsT rs m r := rfl
    rw [e2, Lib.join_cons] at e
    unfold wdT at e
    cases hD : Lib.decDigits (ky (rs.getD x.toNat rg0).2.1 m).toNat with
    | nil => exact h1 hD
    | cons d D =>
      rw [hD] at e h2
      simp only [List.cons_append] at e
      injection e with e3 _
      have := h2 d (List.mem_cons_self ..)
      rw [e3] at this
      exact absurd this (by decide)
theorem tx_dash {rs : List RG} {m : Int} (h : areB rs = true) (h2 : inB m 0 730499 = true) : (txF rs m).1 = [45] ↔ onK rs m rs.length = [] := by
  rw [tx_0 h h2]
  constructor
  · intro e
    by_cases hn : onK rs m rs.length = []
    · exact hn
    · dsimp only at e
      rw [if_neg hn] at e
      exact absurd e (join_dash rs m _ hn)
  · intro e
    dsimp only
    rw [if_pos e]
/-- a drawn list as the functions under test want it -/
theorem OwnR.row {w : World} {b : Nat} {v : Value} {l : List RG} (h : OwnR w b v l) (hv : v ≠ .slice none 0 0) : ∃ g c, v = .slice (some ⟨g, 0, none⟩) l.length c ∧ b ≤ g ∧ g < w.heap.size ∧ RowR w g l.length l := by
  have h0 := h
  rcases h.2 with ⟨e, _⟩ | ⟨g, cap, cur, rfl, hbase, hblk, hnc, hcm, hsz, htk⟩
  · exact absurd e hv
  · refine ⟨g, cap, rfl, hbase, (World.ownsRow.lt h g rfl).2, fun hl => ?_⟩
    obtain ⟨_, A, c, e, P⟩ := h0.opened
    injection e with e1 e2 e3
    subst e1
    obtain ⟨g', hg, _, hR, _⟩ := P hl
    injection hg with hg
    injection hg with hg
    subst hg
    exact hR hl
end Go.Proofs.YtmpgokijlikddaaGreatDoor
