/- The years of a range with a mark: the program's and the reference's functions return what the plain function says. No condition. -/
import Derived.Test.YtffpaedhdjnbjaaMarks
import Derived.Test.YtffpaedhdjnbjaaDays0
import Derived.Test.YtffpaedhdjnbjaaSlices
import Derived.Deep.RegionHeld3
import Derived.WalkLawsBesides
namespace Go.Proofs.Ytffpaedhdjnbjaa
open Go.RowKit
def ymHit (i e c y : Int) : Bool := (decide (i = 0) || decide (i = (y + 2) % 15 + 1)) && (decide (e = -1) || decide (e = 11 * (y % 19) % 30)) && (decide (c = 0) || decide (c = conc y))
def ymG (i e c y : Int) : List Int := if ymHit i e c y then [y] else []
theorem ymG_T {i e c y : Int} (h : ymHit i e c y = true) : ymG i e c y = [y] := by simp [ymG, h]
theorem ymG_F {i e c y : Int} (h : ymHit i e c y = false) : ymG i e c y = [] := by simp [ymG, h]
theorem ymG_len (i e c a : Int) (k : Nat) : (dls (ymG i e c) a k).length ≤ k := by
  induction k with
  | zero => simp [dls]
  | succ k ih =>
    have : (ymG i e c (a + k)).length ≤ 1 := by unfold ymG; split <;> simp
    simp only [dls, List.length_append]; omega
def ymR (f t : Int) : Bool := inB f 1 2000 && (inB t 1 2000 && (decide (f ≤ t) && decide (t - f ≤ 600)))
theorem ymR_iff {f t : Int} : ymR f t = true ↔ 1 ≤ f ∧ f ≤ 2000 ∧ 1 ≤ t ∧ t ≤ 2000 ∧ f ≤ t ∧ t - f ≤ 600 := by unfold ymR inB; simp; omega
def ymF (i e c f t : Int) : List Int × Int := if isMarkB i e c then (if ymR f t then (dls (ymG i e c) f (t + 1 - f).toNat, 0) else ([], 2)) else ([], 1)
theorem ymF_len (i e c f t : Int) : (ymF i e c f t).1.length ≤ 601 := by
  unfold ymF
  split
  · split
    next h =>
      have := ymR_iff.1 h
      have := ymG_len i e c f (t + 1 - f).toNat
      simp only; omega
    next => simp
  · simp
set_option maxHeartbeats 4000000 in
theorem i_YearsMarked (i e c f t : Int) (w : World) : Calls Try.prog 21 #[.agg #[.int .i64 i, .int .i64 e, .int .i64 c], .int .i64 f, .int .i64 t] w fun r w' => ∃ v, r = .returned (.tuple #[v, .int .i64 (ymF i e c f t).2]) ∧ OwnI w' w.heap.size v (ymF i e c f t).1 ∧ Below w.heap.size w w' := by
  obtain ⟨bm, hm⟩ : ∃ b, isMarkB i e c = b := ⟨_, rfl⟩
  have HM := Lib.hid hm
  cases bm
  · have hF : ymF i e c f t = ([], 1) := by simp [ymF, hm]
    rw [hF]; clear hF hm
    go_enter Try.func21, Try.ntmps21
    go_wp2_with fail
    refine (toBelowB (i_IsYearMark _ _ _ _) HM.out).mono ?_
    rintro r w1 ⟨rfl, hb1⟩
    go_wp2_with fail
    go_ret2
    exact ⟨_, rfl, OwnI.nil _ _, below_step (below_alloc _ _) hb1⟩
  · obtain ⟨br, hr⟩ : ∃ b, ymR f t = b := ⟨_, rfl⟩
    cases br
    · have hF : ymF i e c f t = ([], 2) := by simp [ymF, hm, hr]
      rw [hF]; clear hF hm
      have hr' : ¬ (1 ≤ f ∧ f ≤ 2000 ∧ 1 ≤ t ∧ t ≤ 2000 ∧ f ≤ t ∧ t - f ≤ 600) := by rw [← ymR_iff, hr]; simp
      by_cases hf : inB f 1 2000 = true
      · obtain ⟨f0, f1⟩ := inB_iff.1 hf
        by_cases ht : inB t 1 2000 = true
        · obtain ⟨t0, t1⟩ := inB_iff.1 ht
          by_cases hft : t < f
          all_goals
            clear hr
            have hgap : t < f ∨ 600 < t - f := by omega
            clear hr'
            go_enter Try.func21, Try.ntmps21
            go_wp2_with fail
            refine (toBelowB (i_IsYearMark _ _ _ _) HM.out).mono ?_
            rintro r w1 ⟨rfl, hb1⟩
          · clear hgap
            go_wp2_with (go_at_call 61; refine (toB (i_year _ _) (by assumption)).mono ?_; rintro e w' ⟨rfl, rfl⟩)
            go_ret2
            exact ⟨_, rfl, OwnI.nil _ _, below_step (below_alloc _ _) hb1⟩
          · have hg2 : 600 < t - f := by omega
            clear hgap
            go_wp2_with (go_at_call 61; refine (toB (i_year _ _) (by assumption)).mono ?_; rintro e w' ⟨rfl, rfl⟩)
            go_ret2
            exact ⟨_, rfl, OwnI.nil _ _, below_step (below_alloc _ _) hb1⟩
        · have ht' : inB t 1 2000 = false := by simpa using ht
          clear ht hr hr'
          go_enter Try.func21, Try.ntmps21
          go_wp2_with fail
          refine (toBelowB (i_IsYearMark _ _ _ _) HM.out).mono ?_
          rintro r w1 ⟨rfl, hb1⟩
          go_wp2_with (go_at_call 61; refine (toB (i_year _ _) (by assumption)).mono ?_; rintro e w' ⟨rfl, rfl⟩)
          go_ret2
          exact ⟨_, rfl, OwnI.nil _ _, below_step (below_alloc _ _) hb1⟩
      · have hf' : inB f 1 2000 = false := by simpa using hf
        clear hf hr hr'
        go_enter Try.func21, Try.ntmps21
        go_wp2_with fail
        refine (toBelowB (i_IsYearMark _ _ _ _) HM.out).mono ?_
        rintro r w1 ⟨rfl, hb1⟩
        go_wp2_with (go_at_call 61; refine (toB (i_year _ _) (by assumption)).mono ?_; rintro e w' ⟨rfl, rfl⟩)
        go_ret2
        exact ⟨_, rfl, OwnI.nil _ _, below_step (below_alloc _ _) hb1⟩
    · have hF : ymF i e c f t = (dls (ymG i e c) f (t + 1 - f).toNat, 0) := by simp [ymF, hm, hr]
      rw [hF]; clear hF hm
      obtain ⟨f0, f1, t0, t1, hft, hgap⟩ := ymR_iff.1 hr
      clear hr
      have hf : inB f 1 2000 = true := inB_mk f0 f1
      have ht : inB t 1 2000 = true := inB_mk t0 t1
      obtain ⟨n, hn⟩ : ∃ n, (t + 1 - f).toNat = n := ⟨_, rfl⟩
      have n0 : f + n ≤ t + 1 := by omega
      have n1 : t + 1 ≤ f + n := by omega
      rw [hn]; clear hn
      go_enter Try.func21, Try.ntmps21
      go_wp2_with fail
      refine (toBelowB (i_IsYearMark _ _ _ _) HM.out).mono ?_
      rintro r w1 ⟨rfl, hb1⟩
      have hblk1 := (Blk.new w 32 #[.int .i64 i, .int .i64 e, .int .i64 c]).below hb1 (by simp)
      have hB1 := below_step (below_alloc _ _) hb1
      clear hb1
      go_wp2_with (go_at_call 61; refine (toB (i_year _ _) (by assumption)).mono ?_; rintro e w' ⟨rfl, rfl⟩)
      go_loopw [8, 9] (fun v q wr => ∃ k : Nat, k ≤ n ∧ q = .int .i64 (f + k) ∧ OwnI wr w.heap.size v (dls (ymG i e c) f k) ∧ Blk wr w.heap.size 32 #[.int .i64 i, .int .i64 e, .int .i64 c] ∧ Below w.heap.size w wr) (fun _ q _ => (t + 1 - intOf q).toNat)
      case atStart => exact ⟨0, by omega, by simp, (OwnI.lit0 w1).mono hB1.size, hblk1.alloc _, below_more hB1 hB1.size _⟩
      case round =>
        obtain ⟨k, hk, rfl, hown, hblk, hB⟩ := hrel
        clear hB1 hblk1
        have hlen := ymG_len i e c f k
        have hw := hB.size
        have hs' : dls (ymG i e c) f (k + 1) = dls (ymG i e c) f k ++ ymG i e c (f + k) := rfl
        obtain ⟨y, hy⟩ : ∃ y : Int, f + k = y := ⟨_, rfl⟩
        have hy' : f + ((k + 1 : Nat) : Int) = y + 1 := by omega
        have k0 : y ≤ f + k := by omega
        have k1 : f + k ≤ y := by omega
        rw [hy] at hs' ⊢
        clear hy
        have HY := Lib.hid hy'; clear hy'
        have cG0 := hblk.c0
        have cG1 := hblk.c1
        have cG2 := hblk.c2
        have hG := hblk.lt
        by_cases hlt : y ≤ t
        · obtain ⟨vi, hvi⟩ : ∃ x, (y + 2) % 15 + 1 = x := ⟨_, rfl⟩
          obtain ⟨ve, hve⟩ : ∃ x, 11 * (y % 19) % 30 = x := ⟨_, rfl⟩
          obtain ⟨vc, hvc⟩ : ∃ x, conc y = x := ⟨_, rfl⟩
          have con := fun W : World => i_markOf y W (by omega) (by omega)
          simp only [hvi, hve, hvc] at con
          have CON := Lib.hid con; clear con
          by_cases i1 : i = 0
          · by_cases e1 : e = -1
            · by_cases c1 : c = 0
              · have hh : ymHit i e c y = true := by unfold ymHit; rw [hvi, hve, hvc]; simp [i1, e1, c1]
                rw [ymG_T hh] at hs'
                have HS := Lib.hid hs'; clear hs' hh hvi hve hvc
                clear hlen
                have hlen := ymG_len i e c f k
                have b_i : (i == 0) = true := by simp [i1]
                have b_e : (e == -1) = true := by simp [e1]
                have b_c : (c == 0) = true := by simp [c1]
                clear i1 e1 c1
                go_wp2_with fail
                refine (CON.out _).mono ?_
                rintro r w2 ⟨rfl, hb2⟩
                have hc2 := (bcell hb2).1
                have hown2 := (hown.below hb2).alloc (.cells #[.int .i64 vi, .int .i64 ve, .int .i64 vc] 32)
                have hblk2 := (hblk.below hb2 hG).alloc (.cells #[.int .i64 vi, .int .i64 ve, .int .i64 vc] 32)
                have hz2 := hb2.size
                have hzG : w.heap.size < w2.heap.size := by omega
                have hB2 := (hB.trans (hb2.mono hw)).alloc (by omega) (.cells #[.int .i64 vi, .int .i64 ve, .int .i64 vc] 32)
                clear hb2
                go_wp2_with (at_builtin; refine wpList_appI' rfl _ _ rfl _ _ _ _ _ rfl hown2 _ (by simp) rfl (by omega) (by simp; omega) ?_; intro v' w5 hown5 hg5)
                go_roundw
                case rel => exact ⟨k + 1, by omega, by rw [HY.out], by rw [HS.out]; exact hown5, hown2.blk hblk2 hg5 (by decide), hown2.below_grown hB2 hg5 (by simp; omega)⟩
                case measure => simp [intOf]; omega
              · by_cases c2 : c = vc
                · have hh : ymHit i e c y = true := by unfold ymHit; rw [hvi, hve, hvc]; simp [i1, e1, c2]
                  rw [ymG_T hh] at hs'
                  have HS := Lib.hid hs'; clear hs' hh hvi hve hvc
                  clear hlen
                  have hlen := ymG_len i e c f k
                  have b_i : (i == 0) = true := by simp [i1]
                  have b_e : (e == -1) = true := by simp [e1]
                  have b_c : (c == 0) = false := by simp [c1]
                  have b2_c : (c == vc) = true := by simp [c2]
                  clear i1 e1 c1 c2
                  go_wp2_with fail
                  refine (CON.out _).mono ?_
                  rintro r w2 ⟨rfl, hb2⟩
                  have hc2 := (bcell hb2).1
                  have hown2 := (hown.below hb2).alloc (.cells #[.int .i64 vi, .int .i64 ve, .int .i64 vc] 32)
                  have hblk2 := (hblk.below hb2 hG).alloc (.cells #[.int .i64 vi, .int .i64 ve, .int .i64 vc] 32)
                  have hz2 := hb2.size
                  have hzG : w.heap.size < w2.heap.size := by omega
                  have hB2 := (hB.trans (hb2.mono hw)).alloc (by omega) (.cells #[.int .i64 vi, .int .i64 ve, .int .i64 vc] 32)
                  clear hb2
                  go_wp2_with (at_builtin; refine wpList_appI' rfl _ _ rfl _ _ _ _ _ rfl hown2 _ (by simp) rfl (by omega) (by simp; omega) ?_; intro v' w5 hown5 hg5)
                  go_roundw
                  case rel => exact ⟨k + 1, by omega, by rw [HY.out], by rw [HS.out]; exact hown5, hown2.blk hblk2 hg5 (by decide), hown2.below_grown hB2 hg5 (by simp; omega)⟩
                  case measure => simp [intOf]; omega
                · have hh : ymHit i e c y = false := by unfold ymHit; rw [hvi, hve, hvc]; simp [c1, c2]
                  rw [ymG_F hh, List.append_nil] at hs'
                  have HS := Lib.hid hs'; clear hs' hh hvi hve hvc
                  have b_i : (i == 0) = true := by simp [i1]
                  have b_e : (e == -1) = true := by simp [e1]
                  have b_c : (c == 0) = false := by simp [c1]
                  have b2_c : (c == vc) = false := by simp [c2]
                  clear i1 e1 c1 c2
                  go_wp2_with fail
                  refine (CON.out _).mono ?_
                  rintro r w2 ⟨rfl, hb2⟩
                  have hc2 := (bcell hb2).1
                  have hown2 := (hown.below hb2).alloc (.cells #[.int .i64 vi, .int .i64 ve, .int .i64 vc] 32)
                  have hblk2 := (hblk.below hb2 hG).alloc (.cells #[.int .i64 vi, .int .i64 ve, .int .i64 vc] 32)
                  have hz2 := hb2.size
                  have hzG : w.heap.size < w2.heap.size := by omega
                  have hB2 := (hB.trans (hb2.mono hw)).alloc (by omega) (.cells #[.int .i64 vi, .int .i64 ve, .int .i64 vc] 32)
                  clear hb2
                  go_wp2_with fail
                  go_roundw
                  case rel => exact ⟨k + 1, by omega, by rw [HY.out], by rw [HS.out]; exact hown2, hblk2, hB2⟩
                  case measure => simp [intOf]; omega
            · by_cases e2 : e = ve
              · by_cases c1 : c = 0
                · have hh : ymHit i e c y = true := by unfold ymHit; rw [hvi, hve, hvc]; simp [i1, e2, c1]
                  rw [ymG_T hh] at hs'
                  have HS := Lib.hid hs'; clear hs' hh hvi hve hvc
                  clear hlen
                  have hlen := ymG_len i e c f k
                  have b_i : (i == 0) = true := by simp [i1]
                  have b_e : (e == -1) = false := by simp [e1]
                  have b2_e : (e == ve) = true := by simp [e2]
                  have b_c : (c == 0) = true := by simp [c1]
                  clear i1 e1 c1 e2
                  go_wp2_with fail
                  refine (CON.out _).mono ?_
                  rintro r w2 ⟨rfl, hb2⟩
                  have hc2 := (bcell hb2).1
                  have hown2 := (hown.below hb2).alloc (.cells #[.int .i64 vi, .int .i64 ve, .int .i64 vc] 32)
                  have hblk2 := (hblk.below hb2 hG).alloc (.cells #[.int .i64 vi, .int .i64 ve, .int .i64 vc] 32)
                  have hz2 := hb2.size
                  have hzG : w.heap.size < w2.heap.size := by omega
                  have hB2 := (hB.trans (hb2.mono hw)).alloc (by omega) (.cells #[.int .i64 vi, .int .i64 ve, .int .i64 vc] 32)
                  clear hb2
                  go_wp2_with (at_builtin; refine wpList_appI' rfl _ _ rfl _ _ _ _ _ rfl hown2 _ (by simp) rfl (by omega) (by simp; omega) ?_; intro v' w5 hown5 hg5)
                  go_roundw
                  case rel => exact ⟨k + 1, by omega, by rw [HY.out], by rw [HS.out]; exact hown5, hown2.blk hblk2 hg5 (by decide), hown2.below_grown hB2 hg5 (by simp; omega)⟩
                  case measure => simp [intOf]; omega
                · by_cases c2 : c = vc
                  · have hh : ymHit i e c y = true := by unfold ymHit; rw [hvi, hve, hvc]; simp [i1, e2, c2]
                    rw [ymG_T hh] at hs'
                    have HS := Lib.hid hs'; clear hs' hh hvi hve hvc
                    clear hlen
                    have hlen := ymG_len i e c f k
                    have b_i : (i == 0) = true := by simp [i1]
                    have b_e : (e == -1) = false := by simp [e1]
                    have b2_e : (e == ve) = true := by simp [e2]
                    have b_c : (c == 0) = false := by simp [c1]
                    have b2_c : (c == vc) = true := by simp [c2]
                    clear i1 e1 c1 e2 c2
                    go_wp2_with fail
                    refine (CON.out _).mono ?_
                    rintro r w2 ⟨rfl, hb2⟩
                    have hc2 := (bcell hb2).1
                    have hown2 := (hown.below hb2).alloc (.cells #[.int .i64 vi, .int .i64 ve, .int .i64 vc] 32)
                    have hblk2 := (hblk.below hb2 hG).alloc (.cells #[.int .i64 vi, .int .i64 ve, .int .i64 vc] 32)
                    have hz2 := hb2.size
                    have hzG : w.heap.size < w2.heap.size := by omega
                    have hB2 := (hB.trans (hb2.mono hw)).alloc (by omega) (.cells #[.int .i64 vi, .int .i64 ve, .int .i64 vc] 32)
                    clear hb2
                    go_wp2_with (at_builtin; refine wpList_appI' rfl _ _ rfl _ _ _ _ _ rfl hown2 _ (by simp) rfl (by omega) (by simp; omega) ?_; intro v' w5 hown5 hg5)
                    go_roundw
                    case rel => exact ⟨k + 1, by omega, by rw [HY.out], by rw [HS.out]; exact hown5, hown2.blk hblk2 hg5 (by decide), hown2.below_grown hB2 hg5 (by simp; omega)⟩
                    case measure => simp [intOf]; omega
                  · have hh : ymHit i e c y = false := by unfold ymHit; rw [hvi, hve, hvc]; simp [c1, c2]
                    rw [ymG_F hh, List.append_nil] at hs'
                    have HS := Lib.hid hs'; clear hs' hh hvi hve hvc
                    have b_i : (i == 0) = true := by simp [i1]
                    have b_e : (e == -1) = false := by simp [e1]
                    have b2_e : (e == ve) = true := by simp [e2]
                    have b_c : (c == 0) = false := by simp [c1]
                    have b2_c : (c == vc) = false := by simp [c2]
                    clear i1 e1 e2 c1 c2
                    go_wp2_with fail
                    refine (CON.out _).mono ?_
                    rintro r w2 ⟨rfl, hb2⟩
                    have hc2 := (bcell hb2).1
                    have hown2 := (hown.below hb2).alloc (.cells #[.int .i64 vi, .int .i64 ve, .int .i64 vc] 32)
                    have hblk2 := (hblk.below hb2 hG).alloc (.cells #[.int .i64 vi, .int .i64 ve, .int .i64 vc] 32)
                    have hz2 := hb2.size
                    have hzG : w.heap.size < w2.heap.size := by omega
                    have hB2 := (hB.trans (hb2.mono hw)).alloc (by omega) (.cells #[.int .i64 vi, .int .i64 ve, .int .i64 vc] 32)
                    clear hb2
                    go_wp2_with fail
                    go_roundw
                    case rel => exact ⟨k + 1, by omega, by rw [HY.out], by rw [HS.out]; exact hown2, hblk2, hB2⟩
                    case measure => simp [intOf]; omega
              · have hh : ymHit i e c y = false := by unfold ymHit; rw [hvi, hve, hvc]; simp [e1, e2]
                rw [ymG_F hh, List.append_nil] at hs'
                have HS := Lib.hid hs'; clear hs' hh hvi hve hvc
                have b_i : (i == 0) = true := by simp [i1]
                have b_e : (e == -1) = false := by simp [e1]
                have b2_e : (e == ve) = false := by simp [e2]
                clear i1 e1 e2
                go_wp2_with fail
                refine (CON.out _).mono ?_
                rintro r w2 ⟨rfl, hb2⟩
                have hc2 := (bcell hb2).1
                have hown2 := (hown.below hb2).alloc (.cells #[.int .i64 vi, .int .i64 ve, .int .i64 vc] 32)
                have hblk2 := (hblk.below hb2 hG).alloc (.cells #[.int .i64 vi, .int .i64 ve, .int .i64 vc] 32)
                have hz2 := hb2.size
                have hzG : w.heap.size < w2.heap.size := by omega
                have hB2 := (hB.trans (hb2.mono hw)).alloc (by omega) (.cells #[.int .i64 vi, .int .i64 ve, .int .i64 vc] 32)
                clear hb2
                go_wp2_with fail
                go_roundw
                case rel => exact ⟨k + 1, by omega, by rw [HY.out], by rw [HS.out]; exact hown2, hblk2, hB2⟩
                case measure => simp [intOf]; omega
          · by_cases i2 : i = vi
            · by_cases e1 : e = -1
              · by_cases c1 : c = 0
                · have hh : ymHit i e c y = true := by unfold ymHit; rw [hvi, hve, hvc]; simp [i2, e1, c1]
                  rw [ymG_T hh] at hs'
                  have HS := Lib.hid hs'; clear hs' hh hvi hve hvc
                  clear hlen
                  have hlen := ymG_len i e c f k
                  have b_i : (i == 0) = false := by simp [i1]
                  have b2_i : (i == vi) = true := by simp [i2]
                  have b_e : (e == -1) = true := by simp [e1]
                  have b_c : (c == 0) = true := by simp [c1]
                  clear i1 e1 c1 i2
                  go_wp2_with fail
                  refine (CON.out _).mono ?_
                  rintro r w2 ⟨rfl, hb2⟩
                  have hc2 := (bcell hb2).1
                  have hown2 := (hown.below hb2).alloc (.cells #[.int .i64 vi, .int .i64 ve, .int .i64 vc] 32)
                  have hblk2 := (hblk.below hb2 hG).alloc (.cells #[.int .i64 vi, .int .i64 ve, .int .i64 vc] 32)
                  have hz2 := hb2.size
                  have hzG : w.heap.size < w2.heap.size := by omega
                  have hB2 := (hB.trans (hb2.mono hw)).alloc (by omega) (.cells #[.int .i64 vi, .int .i64 ve, .int .i64 vc] 32)
                  clear hb2
                  go_wp2_with (at_builtin; refine wpList_appI' rfl _ _ rfl _ _ _ _ _ rfl hown2 _ (by simp) rfl (by omega) (by simp; omega) ?_; intro v' w5 hown5 hg5)
                  go_roundw
                  case rel => exact ⟨k + 1, by omega, by rw [HY.out], by rw [HS.out]; exact hown5, hown2.blk hblk2 hg5 (by decide), hown2.below_grown hB2 hg5 (by simp; omega)⟩
                  case measure => simp [intOf]; omega
                · by_cases c2 : c = vc
                  · have hh : ymHit i e c y = true := by unfold ymHit; rw [hvi, hve, hvc]; simp [i2, e1, c2]
                    rw [ymG_T hh] at hs'
                    have HS := Lib.hid hs'; clear hs' hh hvi hve hvc
                    clear hlen
                    have hlen := ymG_len i e c f k
                    have b_i : (i == 0) = false := by simp [i1]
                    have b2_i : (i == vi) = true := by simp [i2]
                    have b_e : (e == -1) = true := by simp [e1]
                    have b_c : (c == 0) = false := by simp [c1]
                    have b2_c : (c == vc) = true := by simp [c2]
                    clear i1 e1 c1 i2 c2
                    go_wp2_with fail
                    refine (CON.out _).mono ?_
                    rintro r w2 ⟨rfl, hb2⟩
                    have hc2 := (bcell hb2).1
                    have hown2 := (hown.below hb2).alloc (.cells #[.int .i64 vi, .int .i64 ve, .int .i64 vc] 32)
                    have hblk2 := (hblk.below hb2 hG).alloc (.cells #[.int .i64 vi, .int .i64 ve, .int .i64 vc] 32)
                    have hz2 := hb2.size
                    have hzG : w.heap.size < w2.heap.size := by omega
                    have hB2 := (hB.trans (hb2.mono hw)).alloc (by omega) (.cells #[.int .i64 vi, .int .i64 ve, .int .i64 vc] 32)
                    clear hb2
                    go_wp2_with (at_builtin; refine wpList_appI' rfl _ _ rfl _ _ _ _ _ rfl hown2 _ (by simp) rfl (by omega) (by simp; omega) ?_; intro v' w5 hown5 hg5)
                    go_roundw
                    case rel => exact ⟨k + 1, by omega, by rw [HY.out], by rw [HS.out]; exact hown5, hown2.blk hblk2 hg5 (by decide), hown2.below_grown hB2 hg5 (by simp; omega)⟩
                    case measure => simp [intOf]; omega
                  · have hh : ymHit i e c y = false := by unfold ymHit; rw [hvi, hve, hvc]; simp [c1, c2]
                    rw [ymG_F hh, List.append_nil] at hs'
                    have HS := Lib.hid hs'; clear hs' hh hvi hve hvc
                    have b_i : (i == 0) = false := by simp [i1]
                    have b2_i : (i == vi) = true := by simp [i2]
                    have b_e : (e == -1) = true := by simp [e1]
                    have b_c : (c == 0) = false := by simp [c1]
                    have b2_c : (c == vc) = false := by simp [c2]
                    clear i1 e1 i2 c1 c2
                    go_wp2_with fail
                    refine (CON.out _).mono ?_
                    rintro r w2 ⟨rfl, hb2⟩
                    have hc2 := (bcell hb2).1
                    have hown2 := (hown.below hb2).alloc (.cells #[.int .i64 vi, .int .i64 ve, .int .i64 vc] 32)
                    have hblk2 := (hblk.below hb2 hG).alloc (.cells #[.int .i64 vi, .int .i64 ve, .int .i64 vc] 32)
                    have hz2 := hb2.size
                    have hzG : w.heap.size < w2.heap.size := by omega
                    have hB2 := (hB.trans (hb2.mono hw)).alloc (by omega) (.cells #[.int .i64 vi, .int .i64 ve, .int .i64 vc] 32)
                    clear hb2
                    go_wp2_with fail
                    go_roundw
                    case rel => exact ⟨k + 1, by omega, by rw [HY.out], by rw [HS.out]; exact hown2, hblk2, hB2⟩
                    case measure => simp [intOf]; omega
              · by_cases e2 : e = ve
                · by_cases c1 : c = 0
                  · have hh : ymHit i e c y = true := by unfold ymHit; rw [hvi, hve, hvc]; simp [i2, e2, c1]
                    rw [ymG_T hh] at hs'
                    have HS := Lib.hid hs'; clear hs' hh hvi hve hvc
                    clear hlen
                    have hlen := ymG_len i e c f k
                    have b_i : (i == 0) = false := by simp [i1]
                    have b2_i : (i == vi) = true := by simp [i2]
                    have b_e : (e == -1) = false := by simp [e1]
                    have b2_e : (e == ve) = true := by simp [e2]
                    have b_c : (c == 0) = true := by simp [c1]
                    clear i1 e1 c1 i2 e2
                    go_wp2_with fail
                    refine (CON.out _).mono ?_
                    rintro r w2 ⟨rfl, hb2⟩
                    have hc2 := (bcell hb2).1
                    have hown2 := (hown.below hb2).alloc (.cells #[.int .i64 vi, .int .i64 ve, .int .i64 vc] 32)
                    have hblk2 := (hblk.below hb2 hG).alloc (.cells #[.int .i64 vi, .int .i64 ve, .int .i64 vc] 32)
                    have hz2 := hb2.size
                    have hzG : w.heap.size < w2.heap.size := by omega
                    have hB2 := (hB.trans (hb2.mono hw)).alloc (by omega) (.cells #[.int .i64 vi, .int .i64 ve, .int .i64 vc] 32)
                    clear hb2
                    go_wp2_with (at_builtin; refine wpList_appI' rfl _ _ rfl _ _ _ _ _ rfl hown2 _ (by simp) rfl (by omega) (by simp; omega) ?_; intro v' w5 hown5 hg5)
                    go_roundw
                    case rel => exact ⟨k + 1, by omega, by rw [HY.out], by rw [HS.out]; exact hown5, hown2.blk hblk2 hg5 (by decide), hown2.below_grown hB2 hg5 (by simp; omega)⟩
                    case measure => simp [intOf]; omega
                  · by_cases c2 : c = vc
                    · have hh : ymHit i e c y = true := by unfold ymHit; rw [hvi, hve, hvc]; simp [i2, e2, c2]
                      rw [ymG_T hh] at hs'
                      have HS := Lib.hid hs'; clear hs' hh hvi hve hvc
                      clear hlen
                      have hlen := ymG_len i e c f k
                      have b_i : (i == 0) = false := by simp [i1]
                      have b2_i : (i == vi) = true := by simp [i2]
                      have b_e : (e == -1) = false := by simp [e1]
                      have b2_e : (e == ve) = true := by simp [e2]
                      have b_c : (c == 0) = false := by simp [c1]
                      have b2_c : (c == vc) = true := by simp [c2]
                      clear i1 e1 c1 i2 e2 c2
                      go_wp2_with fail
                      refine (CON.out _).mono ?_
                      rintro r w2 ⟨rfl, hb2⟩
                      have hc2 := (bcell hb2).1
                      have hown2 := (hown.below hb2).alloc (.cells #[.int .i64 vi, .int .i64 ve, .int .i64 vc] 32)
                      have hblk2 := (hblk.below hb2 hG).alloc (.cells #[.int .i64 vi, .int .i64 ve, .int .i64 vc] 32)
                      have hz2 := hb2.size
                      have hzG : w.heap.size < w2.heap.size := by omega
                      have hB2 := (hB.trans (hb2.mono hw)).alloc (by omega) (.cells #[.int .i64 vi, .int .i64 ve, .int .i64 vc] 32)
                      clear hb2
                      go_wp2_with (at_builtin; refine wpList_appI' rfl _ _ rfl _ _ _ _ _ rfl hown2 _ (by simp) rfl (by omega) (by simp; omega) ?_; intro v' w5 hown5 hg5)
                      go_roundw
                      case rel => exact ⟨k + 1, by omega, by rw [HY.out], by rw [HS.out]; exact hown5, hown2.blk hblk2 hg5 (by decide), hown2.below_grown hB2 hg5 (by simp; omega)⟩
                      case measure => simp [intOf]; omega
                    · have hh : ymHit i e c y = false := by unfold ymHit; rw [hvi, hve, hvc]; simp [c1, c2]
                      rw [ymG_F hh, List.append_nil] at hs'
                      have HS := Lib.hid hs'; clear hs' hh hvi hve hvc
                      have b_i : (i == 0) = false := by simp [i1]
                      have b2_i : (i == vi) = true := by simp [i2]
                      have b_e : (e == -1) = false := by simp [e1]
                      have b2_e : (e == ve) = true := by simp [e2]
                      have b_c : (c == 0) = false := by simp [c1]
                      have b2_c : (c == vc) = false := by simp [c2]
                      clear i1 e1 i2 e2 c1 c2
                      go_wp2_with fail
                      refine (CON.out _).mono ?_
                      rintro r w2 ⟨rfl, hb2⟩
                      have hc2 := (bcell hb2).1
                      have hown2 := (hown.below hb2).alloc (.cells #[.int .i64 vi, .int .i64 ve, .int .i64 vc] 32)
                      have hblk2 := (hblk.below hb2 hG).alloc (.cells #[.int .i64 vi, .int .i64 ve, .int .i64 vc] 32)
                      have hz2 := hb2.size
                      have hzG : w.heap.size < w2.heap.size := by omega
                      have hB2 := (hB.trans (hb2.mono hw)).alloc (by omega) (.cells #[.int .i64 vi, .int .i64 ve, .int .i64 vc] 32)
                      clear hb2
                      go_wp2_with fail
                      go_roundw
                      case rel => exact ⟨k + 1, by omega, by rw [HY.out], by rw [HS.out]; exact hown2, hblk2, hB2⟩
                      case measure => simp [intOf]; omega
                · have hh : ymHit i e c y = false := by unfold ymHit; rw [hvi, hve, hvc]; simp [e1, e2]
                  rw [ymG_F hh, List.append_nil] at hs'
                  have HS := Lib.hid hs'; clear hs' hh hvi hve hvc
                  have b_i : (i == 0) = false := by simp [i1]
                  have b2_i : (i == vi) = true := by simp [i2]
                  have b_e : (e == -1) = false := by simp [e1]
                  have b2_e : (e == ve) = false := by simp [e2]
                  clear i1 i2 e1 e2
                  go_wp2_with fail
                  refine (CON.out _).mono ?_
                  rintro r w2 ⟨rfl, hb2⟩
                  have hc2 := (bcell hb2).1
                  have hown2 := (hown.below hb2).alloc (.cells #[.int .i64 vi, .int .i64 ve, .int .i64 vc] 32)
                  have hblk2 := (hblk.below hb2 hG).alloc (.cells #[.int .i64 vi, .int .i64 ve, .int .i64 vc] 32)
                  have hz2 := hb2.size
                  have hzG : w.heap.size < w2.heap.size := by omega
                  have hB2 := (hB.trans (hb2.mono hw)).alloc (by omega) (.cells #[.int .i64 vi, .int .i64 ve, .int .i64 vc] 32)
                  clear hb2
                  go_wp2_with fail
                  go_roundw
                  case rel => exact ⟨k + 1, by omega, by rw [HY.out], by rw [HS.out]; exact hown2, hblk2, hB2⟩
                  case measure => simp [intOf]; omega
            · have hh : ymHit i e c y = false := by unfold ymHit; rw [hvi, hve, hvc]; simp [i1, i2]
              rw [ymG_F hh, List.append_nil] at hs'
              have HS := Lib.hid hs'; clear hs' hh hvi hve hvc
              have b_i : (i == 0) = false := by simp [i1]
              have b2_i : (i == vi) = false := by simp [i2]
              clear i1 i2
              go_wp2_with fail
              refine (CON.out _).mono ?_
              rintro r w2 ⟨rfl, hb2⟩
              have hc2 := (bcell hb2).1
              have hown2 := (hown.below hb2).alloc (.cells #[.int .i64 vi, .int .i64 ve, .int .i64 vc] 32)
              have hblk2 := (hblk.below hb2 hG).alloc (.cells #[.int .i64 vi, .int .i64 ve, .int .i64 vc] 32)
              have hz2 := hb2.size
              have hzG : w.heap.size < w2.heap.size := by omega
              have hB2 := (hB.trans (hb2.mono hw)).alloc (by omega) (.cells #[.int .i64 vi, .int .i64 ve, .int .i64 vc] 32)
              clear hb2
              go_wp2_with fail
              go_roundw
              case rel => exact ⟨k + 1, by omega, by rw [HY.out], by rw [HS.out]; exact hown2, hblk2, hB2⟩
              case measure => simp [intOf]; omega
        · obtain rfl : k = n := by omega
          go_wp2_with fail
          go_ret2
          exact ⟨_, rfl, hown, hB⟩
end Go.Proofs.Ytffpaedhdjnbjaa
