/- The years of a range with a mark: the reference's function returns what the plain function says. No condition. -/
import Derived.Test.YtffpaedhdjnbjaaYearsMarked
namespace Go.Proofs.Ytffpaedhdjnbjaa
open Go.RowKit
set_option maxHeartbeats 4000000 in
theorem s_YearsMarked (i e c f t : Int) (w : World) : Calls Try.prog 22 #[.agg #[.int .i64 i, .int .i64 e, .int .i64 c], .int .i64 f, .int .i64 t] w fun r w' => ∃ v, r = .returned (.tuple #[v, .int .i64 (ymF i e c f t).2]) ∧ OwnI w' w.heap.size v (ymF i e c f t).1 ∧ Below w.heap.size w w' := by
  obtain ⟨bm, hm⟩ : ∃ b, isMarkB i e c = b := ⟨_, rfl⟩
  have HM := Lib.hid hm
  cases bm
  · have hF : ymF i e c f t = ([], 1) := by simp [ymF, hm]
    rw [hF]; clear hF hm
    go_enter Try.func22, Try.ntmps22
    go_wp2_with fail
    refine (toBelowB (s_IsYearMark _ _ _ _) HM.out).mono ?_
    rintro r w1 ⟨rfl, hb1⟩
    go_wp2_with fail
    go_ret2
    exact ⟨_, rfl, OwnI.nil _ _, below_step (below_alloc _ _) hb1⟩
  · obtain ⟨br, hr⟩ : ∃ b, ymR f t = b := ⟨_, rfl⟩
    by_cases hf : inB f 1 2000 = true
    · obtain ⟨f0, f1⟩ := inB_iff.1 hf
      cases br
      · have hF : ymF i e c f t = ([], 2) := by simp [ymF, hm, hr]
        rw [hF]; clear hF hm
        have hr' : ¬ (1 ≤ f ∧ f ≤ 2000 ∧ 1 ≤ t ∧ t ≤ 2000 ∧ f ≤ t ∧ t - f ≤ 600) := by rw [← ymR_iff, hr]; simp
        have HR := Lib.hid hr'; clear hr' hr
        go_enter Try.func22, Try.ntmps22
        go_wp2_with fail
        refine (toBelowB (s_IsYearMark _ _ _ _) HM.out).mono ?_
        rintro r w1 ⟨rfl, hb1⟩
        go_wp2_with (go_at_call 63; refine (toB (s_year _ _) hf).mono ?_; rintro e w' ⟨rfl, rfl⟩)
        all_goals
          refine (toB (s_in _ _ _ _) (by have := HR.out; rw [inB_not]; omega)).mono ?_
          rintro r w2 ⟨rfl, rfl⟩
          go_wp2_with fail
          go_ret2
          exact ⟨_, rfl, OwnI.nil _ _, below_step (below_alloc _ _) hb1⟩
      · have hF : ymF i e c f t = (dls (ymG i e c) f (t + 1 - f).toNat, 0) := by simp [ymF, hm, hr]
        rw [hF]; clear hF hm
        obtain ⟨_, _, t0, t1, hft, hgap⟩ := ymR_iff.1 hr
        clear hr
        have he0 : -1 ≤ e := by have := inB_iff.1 (isMarkB_iff.1 HM.out).2.1; omega
        obtain ⟨n, hn⟩ : ∃ n, (t + 1 - f).toNat = n := ⟨_, rfl⟩
        have n0 : f + n ≤ t + 1 := by omega
        have n1 : t + 1 ≤ f + n := by omega
        rw [hn]; clear hn
        go_enter Try.func22, Try.ntmps22
        go_wp2_with fail
        refine (toBelowB (s_IsYearMark _ _ _ _) HM.out).mono ?_
        rintro r w1 ⟨rfl, hb1⟩
        have hblk1 := (Blk.new w 32 #[.int .i64 i, .int .i64 e, .int .i64 c]).below hb1 (by simp)
        have hB1 := below_step (below_alloc _ _) hb1
        clear hb1
        go_wp2_with (go_at_call 63; refine (toB (s_year _ _) hf).mono ?_; rintro e w' ⟨rfl, rfl⟩)
        all_goals
          refine (toB (s_in _ _ _ _) (inB_mk (by omega) (by omega))).mono ?_
          rintro r w2 ⟨rfl, rfl⟩
          go_wp2_with fail
          go_loopw [8, 9] (fun v q wr => ∃ k : Nat, k ≤ n ∧ q = .int .i64 (f + k) ∧ OwnI wr w.heap.size v (dls (ymG i e c) f k) ∧ Blk wr w.heap.size 32 #[.int .i64 i, .int .i64 e, .int .i64 c] ∧ Below w.heap.size w wr) (fun _ q _ => (t + 1 - intOf q).toNat)
          case atStart => exact ⟨0, by omega, by simp, (OwnI.lit0 w1).mono hB1.size, hblk1.alloc _, below_more hB1 hB1.size _⟩
          case round =>
            obtain ⟨k, hk, rfl, hown, hblk, hB⟩ := hrel
            clear hB1 hblk1
            have hlen := ymG_len i e c f k
            have hw := hB.size
            have hs' : dls (ymG i e c) f (k + 1) = dls (ymG i e c) f k ++ ymG i e c (f + k) := rfl
            obtain ⟨y, hy⟩ : ∃ y : Int, f + k = y := ⟨_, rfl⟩
            have hy' : f + ((k + 1 : Nat) : Int) = y + 1 := by omega
            have k0 : y ≤ f + k := by omega
            have k1 : f + k ≤ y := by omega
            rw [hy] at hs' ⊢
            clear hy
            have HY := Lib.hid hy'; clear hy'
            have cG0 := hblk.c0
            have cG1 := hblk.c1
            have cG2 := hblk.c2
            have hG := hblk.lt
            by_cases hlt : y ≤ t
            · obtain ⟨vi, hvi⟩ : ∃ x, (y + 2) % 15 + 1 = x := ⟨_, rfl⟩
              obtain ⟨ve, hve⟩ : ∃ x, 11 * (y % 19) % 30 = x := ⟨_, rfl⟩
              obtain ⟨vc, hvc⟩ : ∃ x, conc y = x := ⟨_, rfl⟩
              have conI := fun W : World => s_indiction y W (by omega) (by omega)
              have conE := fun W : World => s_epact y W (by omega) (by omega)
              have conC := fun W : World => s_conc y W (by omega) (by omega)
              simp only [hvi] at conI
              simp only [hve] at conE
              simp only [hvc] at conC
              have CI := Lib.hid conI; clear conI
              have CE := Lib.hid conE; clear conE
              have CC := Lib.hid conC; clear conC
              by_cases i1 : i = 0
              · by_cases e1 : e = -1
                · by_cases c1 : c = 0
                  · have hh : ymHit i e c y = true := by unfold ymHit; rw [hvi, hve, hvc]; simp [i1, e1, c1]
                    rw [ymG_T hh] at hs'
                    have HS := Lib.hid hs'; clear hs' hh hvi hve hvc
                    have b_i : (i == 0) = true := by simp [i1]
                    have b_e : e < 0 := by omega
                    have b_c : (c == 0) = true := by simp [c1]
                    clear i1 e1 c1
                    go_wp2_with fail
                    go_quiet ((go_at_call 64; exact q1 (CI.out _)))
                    go_wp2_with fail
                    go_quiet ((go_at_call 65; exact q2 (CE.out _)))
                    go_wp2_with fail
                    go_quiet (fail)
                    go_wp2_with (at_builtin; refine wpList_appI rfl _ _ rfl _ _ _ _ _ rfl (hown.drewN _) rfl (by omega) (by simp; omega) ?_; intro v' w5 hown5 hg5)
                    go_roundw
                    case rel => exact ⟨k + 1, by omega, by rw [HY.out], by rw [HS.out]; exact hown5, (hown.drewN _).blk (hblk.drewN _) hg5 (by decide), (hown.drewN _).below_grown (below_drewN hB _) hg5 (by simp; omega)⟩
                    case measure => simp [intOf]; omega
                  · by_cases c2 : c = vc
                    · have hh : ymHit i e c y = true := by unfold ymHit; rw [hvi, hve, hvc]; simp [i1, e1, c2]
                      rw [ymG_T hh] at hs'
                      have HS := Lib.hid hs'; clear hs' hh hvi hve hvc
                      have b_i : (i == 0) = true := by simp [i1]
                      have b_e : e < 0 := by omega
                      have b_c : (c == 0) = false := by simp [c1]
                      have b2_c : (c == vc) = true := by simp [c2]
                      clear i1 e1 c1 c2
                      go_wp2_with fail
                      go_quiet ((go_at_call 64; exact q1 (CI.out _)))
                      go_wp2_with fail
                      go_quiet ((go_at_call 65; exact q2 (CE.out _)))
                      go_wp2_with fail
                      go_region_held3 (fun W => W.cell? ⟨w.heap.size, 2, none⟩ = some (.int .i64 c))
                        (first | assumption | go_keep)
                        ((go_at_call 66; refine (CC.out _).mono ?_; rintro r w2 ⟨rfl, hb2⟩; have hb2' : Below wr.heap.size wr w2 := ⟨hb2.os, hb2.tape, hb2.output, hb2.size, hb2.block⟩; have cW := (hblk.below hb2' hG).c2; clear hb2))
                      have hz2 := hb2'.size
                      have hown2 := hown.below hb2'
                      have hblk2 := hblk.below hb2' hG
                      have hB2 := hB.trans (hb2'.mono hw)
                      clear hb2'
                      go_wp2_with (at_builtin; refine wpList_appI rfl _ _ rfl _ _ _ _ _ rfl hown2 rfl (by omega) (by omega) ?_; intro v' w5 hown5 hg5)
                      go_roundw
                      case rel => exact ⟨k + 1, by omega, by rw [HY.out], by rw [HS.out]; exact hown5, hown2.blk hblk2 hg5 (by decide), hown2.below_grown hB2 hg5 (by omega)⟩
                      case measure => simp [intOf]; omega
                    · have hh : ymHit i e c y = false := by unfold ymHit; rw [hvi, hve, hvc]; simp [c1, c2]
                      rw [ymG_F hh, List.append_nil] at hs'
                      have HS := Lib.hid hs'; clear hs' hh hvi hve hvc
                      have b_i : (i == 0) = true := by simp [i1]
                      have b_e : e < 0 := by omega
                      have b_c : (c == 0) = false := by simp [c1]
                      have b2_c : (c == vc) = false := by simp [c2]
                      clear i1 e1 c1 c2
                      go_wp2_with fail
                      go_quiet ((go_at_call 64; exact q1 (CI.out _)))
                      go_wp2_with fail
                      go_quiet ((go_at_call 65; exact q2 (CE.out _)))
                      go_wp2_with fail
                      go_region_held3 (fun W => W.cell? ⟨w.heap.size, 2, none⟩ = some (.int .i64 c))
                        (first | assumption | go_keep)
                        ((go_at_call 66; refine (CC.out _).mono ?_; rintro r w2 ⟨rfl, hb2⟩; have hb2' : Below wr.heap.size wr w2 := ⟨hb2.os, hb2.tape, hb2.output, hb2.size, hb2.block⟩; have cW := (hblk.below hb2' hG).c2; clear hb2))
                      have hz2 := hb2'.size
                      have hown2 := hown.below hb2'
                      have hblk2 := hblk.below hb2' hG
                      have hB2 := hB.trans (hb2'.mono hw)
                      clear hb2'
                      go_wp2_with fail
                      go_roundw
                      case rel => exact ⟨k + 1, by omega, by rw [HY.out], by rw [HS.out]; exact hown2, hblk2, hB2⟩
                      case measure => simp [intOf]; omega
                · by_cases e2 : e = ve
                  · by_cases c1 : c = 0
                    · have hh : ymHit i e c y = true := by unfold ymHit; rw [hvi, hve, hvc]; simp [i1, e2, c1]
                      rw [ymG_T hh] at hs'
                      have HS := Lib.hid hs'; clear hs' hh hvi hve hvc
                      have b_i : (i == 0) = true := by simp [i1]
                      have b_e : decide (e < 0) = false := by simp; omega
                      have b2_e : (e == ve) = true := by simp [e2]
                      have b_c : (c == 0) = true := by simp [c1]
                      clear i1 e1 c1 e2
                      go_wp2_with fail
                      go_quiet ((go_at_call 64; exact q1 (CI.out _)))
                      go_wp2_with fail
                      go_quiet ((go_at_call 65; exact q2 (CE.out _)))
                      go_wp2_with fail
                      go_quiet (fail)
                      go_wp2_with (at_builtin; refine wpList_appI rfl _ _ rfl _ _ _ _ _ rfl (hown.drewN _) rfl (by omega) (by simp; omega) ?_; intro v' w5 hown5 hg5)
                      go_roundw
                      case rel => exact ⟨k + 1, by omega, by rw [HY.out], by rw [HS.out]; exact hown5, (hown.drewN _).blk (hblk.drewN _) hg5 (by decide), (hown.drewN _).below_grown (below_drewN hB _) hg5 (by simp; omega)⟩
                      case measure => simp [intOf]; omega
                    · by_cases c2 : c = vc
                      · have hh : ymHit i e c y = true := by unfold ymHit; rw [hvi, hve, hvc]; simp [i1, e2, c2]
                        rw [ymG_T hh] at hs'
                        have HS := Lib.hid hs'; clear hs' hh hvi hve hvc
                        have b_i : (i == 0) = true := by simp [i1]
                        have b_e : decide (e < 0) = false := by simp; omega
                        have b2_e : (e == ve) = true := by simp [e2]
                        have b_c : (c == 0) = false := by simp [c1]
                        have b2_c : (c == vc) = true := by simp [c2]
                        clear i1 e1 c1 e2 c2
                        go_wp2_with fail
                        go_quiet ((go_at_call 64; exact q1 (CI.out _)))
                        go_wp2_with fail
                        go_quiet ((go_at_call 65; exact q2 (CE.out _)))
                        go_wp2_with fail
                        go_region_held3 (fun W => W.cell? ⟨w.heap.size, 2, none⟩ = some (.int .i64 c))
                          (first | assumption | go_keep)
                          ((go_at_call 66; refine (CC.out _).mono ?_; rintro r w2 ⟨rfl, hb2⟩; have hb2' : Below wr.heap.size wr w2 := ⟨hb2.os, hb2.tape, hb2.output, hb2.size, hb2.block⟩; have cW := (hblk.below hb2' hG).c2; clear hb2))
                        have hz2 := hb2'.size
                        have hown2 := hown.below hb2'
                        have hblk2 := hblk.below hb2' hG
                        have hB2 := hB.trans (hb2'.mono hw)
                        clear hb2'
                        go_wp2_with (at_builtin; refine wpList_appI rfl _ _ rfl _ _ _ _ _ rfl hown2 rfl (by omega) (by omega) ?_; intro v' w5 hown5 hg5)
                        go_roundw
                        case rel => exact ⟨k + 1, by omega, by rw [HY.out], by rw [HS.out]; exact hown5, hown2.blk hblk2 hg5 (by decide), hown2.below_grown hB2 hg5 (by omega)⟩
                        case measure => simp [intOf]; omega
                      · have hh : ymHit i e c y = false := by unfold ymHit; rw [hvi, hve, hvc]; simp [c1, c2]
                        rw [ymG_F hh, List.append_nil] at hs'
                        have HS := Lib.hid hs'; clear hs' hh hvi hve hvc
                        have b_i : (i == 0) = true := by simp [i1]
                        have b_e : decide (e < 0) = false := by simp; omega
                        have b2_e : (e == ve) = true := by simp [e2]
                        have b_c : (c == 0) = false := by simp [c1]
                        have b2_c : (c == vc) = false := by simp [c2]
                        clear i1 e1 e2 c1 c2
                        go_wp2_with fail
                        go_quiet ((go_at_call 64; exact q1 (CI.out _)))
                        go_wp2_with fail
                        go_quiet ((go_at_call 65; exact q2 (CE.out _)))
                        go_wp2_with fail
                        go_region_held3 (fun W => W.cell? ⟨w.heap.size, 2, none⟩ = some (.int .i64 c))
                          (first | assumption | go_keep)
                          ((go_at_call 66; refine (CC.out _).mono ?_; rintro r w2 ⟨rfl, hb2⟩; have hb2' : Below wr.heap.size wr w2 := ⟨hb2.os, hb2.tape, hb2.output, hb2.size, hb2.block⟩; have cW := (hblk.below hb2' hG).c2; clear hb2))
                        have hz2 := hb2'.size
                        have hown2 := hown.below hb2'
                        have hblk2 := hblk.below hb2' hG
                        have hB2 := hB.trans (hb2'.mono hw)
                        clear hb2'
                        go_wp2_with fail
                        go_roundw
                        case rel => exact ⟨k + 1, by omega, by rw [HY.out], by rw [HS.out]; exact hown2, hblk2, hB2⟩
                        case measure => simp [intOf]; omega
                  · have hh : ymHit i e c y = false := by unfold ymHit; rw [hvi, hve, hvc]; simp [e1, e2]
                    rw [ymG_F hh, List.append_nil] at hs'
                    have HS := Lib.hid hs'; clear hs' hh hvi hve hvc
                    have b_i : (i == 0) = true := by simp [i1]
                    have b_e : decide (e < 0) = false := by simp; omega
                    have b2_e : (e == ve) = false := by simp [e2]
                    clear i1 e1 e2
                    go_wp2_with fail
                    go_quiet ((go_at_call 64; exact q1 (CI.out _)))
                    go_wp2_with fail
                    go_quiet ((go_at_call 65; exact q2 (CE.out _)))
                    go_wp2_with fail
                    go_quiet (fail)
                    go_wp2_with fail
                    go_roundw
                    case rel => exact ⟨k + 1, by omega, by rw [HY.out], by rw [HS.out]; exact hown.drewN _, hblk.drewN _, below_drewN hB _⟩
                    case measure => simp [intOf]; omega
              · by_cases i2 : i = vi
                · by_cases e1 : e = -1
                  · by_cases c1 : c = 0
                    · have hh : ymHit i e c y = true := by unfold ymHit; rw [hvi, hve, hvc]; simp [i2, e1, c1]
                      rw [ymG_T hh] at hs'
                      have HS := Lib.hid hs'; clear hs' hh hvi hve hvc
                      have b_i : (i == 0) = false := by simp [i1]
                      have b2_i : (i == vi) = true := by simp [i2]
                      have b_e : e < 0 := by omega
                      have b_c : (c == 0) = true := by simp [c1]
                      clear i1 e1 c1 i2
                      go_wp2_with fail
                      go_quiet ((go_at_call 64; exact q1 (CI.out _)))
                      go_wp2_with fail
                      go_quiet ((go_at_call 65; exact q2 (CE.out _)))
                      go_wp2_with fail
                      go_quiet (fail)
                      go_wp2_with (at_builtin; refine wpList_appI rfl _ _ rfl _ _ _ _ _ rfl (hown.drewN _) rfl (by omega) (by simp; omega) ?_; intro v' w5 hown5 hg5)
                      go_roundw
                      case rel => exact ⟨k + 1, by omega, by rw [HY.out], by rw [HS.out]; exact hown5, (hown.drewN _).blk (hblk.drewN _) hg5 (by decide), (hown.drewN _).below_grown (below_drewN hB _) hg5 (by simp; omega)⟩
                      case measure => simp [intOf]; omega
                    · by_cases c2 : c = vc
                      · have hh : ymHit i e c y = true := by unfold ymHit; rw [hvi, hve, hvc]; simp [i2, e1, c2]
                        rw [ymG_T hh] at hs'
                        have HS := Lib.hid hs'; clear hs' hh hvi hve hvc
                        have b_i : (i == 0) = false := by simp [i1]
                        have b2_i : (i == vi) = true := by simp [i2]
                        have b_e : e < 0 := by omega
                        have b_c : (c == 0) = false := by simp [c1]
                        have b2_c : (c == vc) = true := by simp [c2]
                        clear i1 e1 c1 i2 c2
                        go_wp2_with fail
                        go_quiet ((go_at_call 64; exact q1 (CI.out _)))
                        go_wp2_with fail
                        go_quiet ((go_at_call 65; exact q2 (CE.out _)))
                        go_wp2_with fail
                        go_region_held3 (fun W => W.cell? ⟨w.heap.size, 2, none⟩ = some (.int .i64 c))
                          (first | assumption | go_keep)
                          ((go_at_call 66; refine (CC.out _).mono ?_; rintro r w2 ⟨rfl, hb2⟩; have hb2' : Below wr.heap.size wr w2 := ⟨hb2.os, hb2.tape, hb2.output, hb2.size, hb2.block⟩; have cW := (hblk.below hb2' hG).c2; clear hb2))
                        have hz2 := hb2'.size
                        have hown2 := hown.below hb2'
                        have hblk2 := hblk.below hb2' hG
                        have hB2 := hB.trans (hb2'.mono hw)
                        clear hb2'
                        go_wp2_with (at_builtin; refine wpList_appI rfl _ _ rfl _ _ _ _ _ rfl hown2 rfl (by omega) (by omega) ?_; intro v' w5 hown5 hg5)
                        go_roundw
                        case rel => exact ⟨k + 1, by omega, by rw [HY.out], by rw [HS.out]; exact hown5, hown2.blk hblk2 hg5 (by decide), hown2.below_grown hB2 hg5 (by omega)⟩
                        case measure => simp [intOf]; omega
                      · have hh : ymHit i e c y = false := by unfold ymHit; rw [hvi, hve, hvc]; simp [c1, c2]
                        rw [ymG_F hh, List.append_nil] at hs'
                        have HS := Lib.hid hs'; clear hs' hh hvi hve hvc
                        have b_i : (i == 0) = false := by simp [i1]
                        have b2_i : (i == vi) = true := by simp [i2]
                        have b_e : e < 0 := by omega
                        have b_c : (c == 0) = false := by simp [c1]
                        have b2_c : (c == vc) = false := by simp [c2]
                        clear i1 e1 i2 c1 c2
                        go_wp2_with fail
                        go_quiet ((go_at_call 64; exact q1 (CI.out _)))
                        go_wp2_with fail
                        go_quiet ((go_at_call 65; exact q2 (CE.out _)))
                        go_wp2_with fail
                        go_region_held3 (fun W => W.cell? ⟨w.heap.size, 2, none⟩ = some (.int .i64 c))
                          (first | assumption | go_keep)
                          ((go_at_call 66; refine (CC.out _).mono ?_; rintro r w2 ⟨rfl, hb2⟩; have hb2' : Below wr.heap.size wr w2 := ⟨hb2.os, hb2.tape, hb2.output, hb2.size, hb2.block⟩; have cW := (hblk.below hb2' hG).c2; clear hb2))
                        have hz2 := hb2'.size
                        have hown2 := hown.below hb2'
                        have hblk2 := hblk.below hb2' hG
                        have hB2 := hB.trans (hb2'.mono hw)
                        clear hb2'
                        go_wp2_with fail
                        go_roundw
                        case rel => exact ⟨k + 1, by omega, by rw [HY.out], by rw [HS.out]; exact hown2, hblk2, hB2⟩
                        case measure => simp [intOf]; omega
                  · by_cases e2 : e = ve
                    · by_cases c1 : c = 0
                      · have hh : ymHit i e c y = true := by unfold ymHit; rw [hvi, hve, hvc]; simp [i2, e2, c1]
                        rw [ymG_T hh] at hs'
                        have HS := Lib.hid hs'; clear hs' hh hvi hve hvc
                        have b_i : (i == 0) = false := by simp [i1]
                        have b2_i : (i == vi) = true := by simp [i2]
                        have b_e : decide (e < 0) = false := by simp; omega
                        have b2_e : (e == ve) = true := by simp [e2]
                        have b_c : (c == 0) = true := by simp [c1]
                        clear i1 e1 c1 i2 e2
                        go_wp2_with fail
                        go_quiet ((go_at_call 64; exact q1 (CI.out _)))
                        go_wp2_with fail
                        go_quiet ((go_at_call 65; exact q2 (CE.out _)))
                        go_wp2_with fail
                        go_quiet (fail)
                        go_wp2_with (at_builtin; refine wpList_appI rfl _ _ rfl _ _ _ _ _ rfl (hown.drewN _) rfl (by omega) (by simp; omega) ?_; intro v' w5 hown5 hg5)
                        go_roundw
                        case rel => exact ⟨k + 1, by omega, by rw [HY.out], by rw [HS.out]; exact hown5, (hown.drewN _).blk (hblk.drewN _) hg5 (by decide), (hown.drewN _).below_grown (below_drewN hB _) hg5 (by simp; omega)⟩
                        case measure => simp [intOf]; omega
                      · by_cases c2 : c = vc
                        · have hh : ymHit i e c y = true := by unfold ymHit; rw [hvi, hve, hvc]; simp [i2, e2, c2]
                          rw [ymG_T hh] at hs'
                          have HS := Lib.hid hs'; clear hs' hh hvi hve hvc
                          have b_i : (i == 0) = false := by simp [i1]
                          have b2_i : (i == vi) = true := by simp [i2]
                          have b_e : decide (e < 0) = false := by simp; omega
                          have b2_e : (e == ve) = true := by simp [e2]
                          have b_c : (c == 0) = false := by simp [c1]
                          have b2_c : (c == vc) = true := by simp [c2]
                          clear i1 e1 c1 i2 e2 c2
                          go_wp2_with fail
                          go_quiet ((go_at_call 64; exact q1 (CI.out _)))
                          go_wp2_with fail
                          go_quiet ((go_at_call 65; exact q2 (CE.out _)))
                          go_wp2_with fail
                          go_region_held3 (fun W => W.cell? ⟨w.heap.size, 2, none⟩ = some (.int .i64 c))
                            (first | assumption | go_keep)
                            ((go_at_call 66; refine (CC.out _).mono ?_; rintro r w2 ⟨rfl, hb2⟩; have hb2' : Below wr.heap.size wr w2 := ⟨hb2.os, hb2.tape, hb2.output, hb2.size, hb2.block⟩; have cW := (hblk.below hb2' hG).c2; clear hb2))
                          have hz2 := hb2'.size
                          have hown2 := hown.below hb2'
                          have hblk2 := hblk.below hb2' hG
                          have hB2 := hB.trans (hb2'.mono hw)
                          clear hb2'
                          go_wp2_with (at_builtin; refine wpList_appI rfl _ _ rfl _ _ _ _ _ rfl hown2 rfl (by omega) (by omega) ?_; intro v' w5 hown5 hg5)
                          go_roundw
                          case rel => exact ⟨k + 1, by omega, by rw [HY.out], by rw [HS.out]; exact hown5, hown2.blk hblk2 hg5 (by decide), hown2.below_grown hB2 hg5 (by omega)⟩
                          case measure => simp [intOf]; omega
                        · have hh : ymHit i e c y = false := by unfold ymHit; rw [hvi, hve, hvc]; simp [c1, c2]
                          rw [ymG_F hh, List.append_nil] at hs'
                          have HS := Lib.hid hs'; clear hs' hh hvi hve hvc
                          have b_i : (i == 0) = false := by simp [i1]
                          have b2_i : (i == vi) = true := by simp [i2]
                          have b_e : decide (e < 0) = false := by simp; omega
                          have b2_e : (e == ve) = true := by simp [e2]
                          have b_c : (c == 0) = false := by simp [c1]
                          have b2_c : (c == vc) = false := by simp [c2]
                          clear i1 e1 i2 e2 c1 c2
                          go_wp2_with fail
                          go_quiet ((go_at_call 64; exact q1 (CI.out _)))
                          go_wp2_with fail
                          go_quiet ((go_at_call 65; exact q2 (CE.out _)))
                          go_wp2_with fail
                          go_region_held3 (fun W => W.cell? ⟨w.heap.size, 2, none⟩ = some (.int .i64 c))
                            (first | assumption | go_keep)
                            ((go_at_call 66; refine (CC.out _).mono ?_; rintro r w2 ⟨rfl, hb2⟩; have hb2' : Below wr.heap.size wr w2 := ⟨hb2.os, hb2.tape, hb2.output, hb2.size, hb2.block⟩; have cW := (hblk.below hb2' hG).c2; clear hb2))
                          have hz2 := hb2'.size
                          have hown2 := hown.below hb2'
                          have hblk2 := hblk.below hb2' hG
                          have hB2 := hB.trans (hb2'.mono hw)
                          clear hb2'
                          go_wp2_with fail
                          go_roundw
                          case rel => exact ⟨k + 1, by omega, by rw [HY.out], by rw [HS.out]; exact hown2, hblk2, hB2⟩
                          case measure => simp [intOf]; omega
                    · have hh : ymHit i e c y = false := by unfold ymHit; rw [hvi, hve, hvc]; simp [e1, e2]
                      rw [ymG_F hh, List.append_nil] at hs'
                      have HS := Lib.hid hs'; clear hs' hh hvi hve hvc
                      have b_i : (i == 0) = false := by simp [i1]
                      have b2_i : (i == vi) = true := by simp [i2]
                      have b_e : decide (e < 0) = false := by simp; omega
                      have b2_e : (e == ve) = false := by simp [e2]
                      clear i1 i2 e1 e2
                      go_wp2_with fail
                      go_quiet ((go_at_call 64; exact q1 (CI.out _)))
                      go_wp2_with fail
                      go_quiet ((go_at_call 65; exact q2 (CE.out _)))
                      go_wp2_with fail
                      go_quiet (fail)
                      go_wp2_with fail
                      go_roundw
                      case rel => exact ⟨k + 1, by omega, by rw [HY.out], by rw [HS.out]; exact hown.drewN _, hblk.drewN _, below_drewN hB _⟩
                      case measure => simp [intOf]; omega
                · have hh : ymHit i e c y = false := by unfold ymHit; rw [hvi, hve, hvc]; simp [i1, i2]
                  rw [ymG_F hh, List.append_nil] at hs'
                  have HS := Lib.hid hs'; clear hs' hh hvi hve hvc
                  have b_i : (i == 0) = false := by simp [i1]
                  have b2_i : (i == vi) = false := by simp [i2]
                  clear i1 i2
                  go_wp2_with fail
                  go_quiet ((go_at_call 64; exact q1 (CI.out _)))
                  go_wp2_with fail
                  go_quiet ((go_at_call 65; exact q2 (CE.out _)))
                  go_wp2_with fail
                  go_quiet (fail)
                  go_wp2_with fail
                  go_roundw
                  case rel => exact ⟨k + 1, by omega, by rw [HY.out], by rw [HS.out]; exact hown.drewN _, hblk.drewN _, below_drewN hB _⟩
                  case measure => simp [intOf]; omega
            · obtain rfl : k = n := by omega
              go_wp2_with fail
              go_ret2
              exact ⟨_, rfl, hown, hB⟩
    · have hf' : inB f 1 2000 = false := by simpa using hf
      have hr : ymR f t = false := by unfold ymR; rw [hf']; rfl
      have hF : ymF i e c f t = ([], 2) := by simp [ymF, hm, hr]
      rw [hF]; clear hF hm hr hf
      go_enter Try.func22, Try.ntmps22
      go_wp2_with fail
      refine (toBelowB (s_IsYearMark _ _ _ _) HM.out).mono ?_
      rintro r w1 ⟨rfl, hb1⟩
      go_wp2_with (go_at_call 63; refine (toB (s_year _ _) hf').mono ?_; rintro e w' ⟨rfl, rfl⟩)
      go_ret2
      exact ⟨_, rfl, OwnI.nil _ _, below_step (below_alloc _ _) hb1⟩
end Go.Proofs.Ytffpaedhdjnbjaa
