/- The program's dateOf and the reference's l01Date: the old date of a day. Condition: the number is a day. -/
import Derived.Test.YtmpgokijlikddaaGreatDoorNum
import Derived.Test.YtmpgokijlikddaaGreatDoorBlk
import Derived.StillTailTactics
namespace Go.Proofs.YtmpgokijlikddaaGreatDoor
open Go.RowKit
theorem yr_lt_iff (n y : Int) : n < nyear (y + 1) ↔ yr n ≤ y := by
  constructor
  · intro h
    by_cases h' : y < yr n
    · have := nyear_mono (y + 1) (yr n) (by omega); have := yr_le n; omega
    · omega
  · intro h
    have := yr_lt n
    have := nyear_mono (yr n + 1) (y + 1) (by omega)
    omega
theorem i_pred (i n : Int) (bn bb : Nat) (b : Bool) (w : World) (hn : w.cell? ⟨bn, 0, none⟩ = some (.int .i64 n)) (hb : w.cell? ⟨bb, 0, none⟩ = some (.bool false)) (h0 : 0 ≤ i) (h1 : i ≤ 2000) (hB : decide (n < nyear (i + 2)) = b) :
    Calls Tryz.prog 212 #[.int .i64 i, .pointer (some ⟨bb, 0, none⟩), .pointer (some ⟨bn, 0, none⟩)] w fun e w' => e = .returned (.bool b) ∧ ∃ q, w' = w.drewN q := by
  go_enter Tryz.func212, Tryz.ntmps212
  go_wp2
  go_quiet ((go_at_call 213; exact q1 (i_nyear _ _ (by omega) (by omega))))
  go_wp2
  go_ret
  exact ⟨rfl, _, rfl⟩
theorem i_search (n : Int) (bn bb : Nat) (w : World) (hn : w.cell? ⟨bn, 0, none⟩ = some (.int .i64 n)) (hb : w.cell? ⟨bb, 0, none⟩ = some (.bool false)) (h0 : 0 ≤ n) (h1 : n ≤ 730499) :
    Calls Tryz.prog 211 #[.int .i64 2000, .func (.func 212) #[] #[.pointer (some ⟨bb, 0, none⟩), .pointer (some ⟨bn, 0, none⟩)]] w fun e w' => e = .returned (.int .i64 (yr n - 1)) ∧ ∃ q, w' = w.drewN q := by
  have hy := yr_bd n h0 h1
  have hle := yr_le n
  have hlt := yr_lt n
  obtain ⟨hy0, hy1⟩ := hy
  go_enter Tryz.func211, Tryz.ntmps211
  go_wp2_with fail
  go_loopw [5, 6] (fun i j wr => ∃ lo hi : Int, 0 ≤ lo ∧ lo ≤ yr n - 1 ∧ yr n - 1 ≤ hi ∧ hi ≤ 2000 ∧ i = .int .i64 lo ∧ j = .int .i64 hi ∧ ∃ q, wr = w.drewN q) (fun i j _ => (intOf j - intOf i).toNat)
  case atStart => exact ⟨0, 2000, by omega, by omega, by omega, by omega, rfl, rfl, 0, rfl⟩
  case round =>
    obtain ⟨lo, hi, l0, l1, l2, l3, rfl, rfl, q, rfl⟩ := hrel
    by_cases hlh : lo < hi
    · obtain ⟨b, hB⟩ : ∃ b, decide (n < nyear ((lo + hi) / 2 + 2)) = b := ⟨_, rfl⟩
      have HB := Lib.hid hB
      clear hB
      have hm0 : lo ≤ (lo + hi) / 2 := by omega
      have hm1 : (lo + hi) / 2 < hi := by omega
      cases b
      · have hd : (lo + hi) / 2 + 1 ≤ yr n - 1 := by have := (yr_lt_iff n ((lo + hi) / 2 + 1)).2; have h := HB.out; rw [decide_eq_false_iff_not] at h; rw [show (lo + hi) / 2 + 1 + 1 = (lo + hi) / 2 + 2 from by omega] at this; omega
        go_wp2_with fail
        refine (i_pred _ _ _ _ _ _ (by simpa using hn) (by simpa using hb) (by omega) (by omega) HB.out).mono ?_
        rintro e w' ⟨rfl, q', rfl⟩
        go_wp2
        go_roundw
        case rel => exact ⟨(lo + hi) / 2 + 1, hi, by omega, by omega, by omega, by omega, rfl, rfl, _, rfl⟩
        case measure => simp [intOf]; omega
      · have hd : yr n - 1 ≤ (lo + hi) / 2 := by have := (yr_lt_iff n ((lo + hi) / 2 + 1)).1; have h := HB.out; rw [decide_eq_true_eq] at h; rw [show (lo + hi) / 2 + 1 + 1 = (lo + hi) / 2 + 2 from by omega] at this; omega
        go_wp2_with fail
        refine (i_pred _ _ _ _ _ _ (by simpa using hn) (by simpa using hb) (by omega) (by omega) HB.out).mono ?_
        rintro e w' ⟨rfl, q', rfl⟩
        go_wp2
        go_roundw
        case rel => exact ⟨lo, (lo + hi) / 2, by omega, by omega, by omega, by omega, rfl, rfl, _, rfl⟩
        case measure => simp [intOf]; omega
    · obtain rfl : lo = hi := by omega
      obtain rfl : lo = yr n - 1 := by omega
      go_wp2
      go_ret
      exact ⟨rfl, _, rfl⟩
set_option maxRecDepth 100000 in
set_option maxHeartbeats 1000000 in
theorem i_dateOf (n : Int) (w : World) (h0 : 0 ≤ n) (h1 : n ≤ 730499) : Calls Tryz.prog 163 #[.int .i64 n, .bool false] w fun e w' => e = .returned (.agg #[.int .i64 (yr n), .int .i64 (mo n), .int .i64 (dy n)]) ∧ Below w.heap.size w w' := by
  obtain ⟨hy0, hy1⟩ := yr_bd n h0 h1
  have hnb := nyear_bd (yr n) hy0 (by omega)
  obtain ⟨nb0, nb1⟩ := hnb
  have hle := yr_le n
  have hlt := yr_lt n
  rw [nyear_succ] at hlt
  have hlp := lp_01 (yr n)
  have hwr : IntKind.i64.wrap (n - nyear (yr n)) = n - nyear (yr n) := IntWalk.i64_in _ (by omega)
  go_enter Tryz.func163, Tryz.ntmps163
  go_wp2_with fail
  refine (i_search n _ _ _ (by simp [go_sem]) (by simp [go_sem]) h0 h1).mono ?_
  rintro e w' ⟨rfl, q, rfl⟩
  go_wp2
  refine wp_region_still_tail 5 (by kernel_rfl) (by kernel_rfl) ?_
  simp only [List.take_succ_cons, List.take_zero, List.drop_succ_cons, List.drop_zero]
  change wpStill _ _ (World.drew _) (fun a' => wpList _ _ _ _ a' (World.drew _)) _ _
  repeat still_step
  still_call ((i_nyear _ _ hy0 (by omega)).mono fun _ _ h => ⟨h.1, h.2.symm⟩)
  repeat still_step
  refine wpStill_nil ?_
  go_wp2
  go_loopw [] (fun wr => ∃ j : Int, 1 ≤ j ∧ j ≤ mo n ∧ Blk wr w.heap.size 2 #[.int .i64 (n - nyear (yr n) - cum (yr n) j)] ∧ Blk wr (w.heap.size + 1) 4 #[.bool false]
    ∧ Blk wr (w.heap.size + 1 + 1) 144 #[.int .i64 0, .int .i64 0, .int .i64 0] ∧ Blk wr (w.heap.size + 1 + 1 + 1) 144 #[.int .i64 (yr n), .int .i64 j, .int .i64 0] ∧ Below w.heap.size w wr)
    (fun wr => (12 - intOf ((wr.cell? ⟨w.heap.size + 1 + 1 + 1, 1, none⟩).getD undef)).toNat)
  case atStart =>
    refine ⟨1, by omega, (mo_bd n).1, ?_, ?_, ?_, ?_, ?_⟩
    · rw [cum_one, Int.sub_zero]; exact ((((((Blk.new _ _ _).alloc _).alloc _).drewN q).s0 _).alloc _).drew
    · exact (((((Blk.new' _ _ _ _ (by simp)).alloc _).drewN q).far (by simp) _).alloc _).drew
    · exact ((((Blk.new' _ _ _ _ (by simp)).drewN q).far (by simp; omega) _).alloc _).drew
    · exact (Blk.new' _ _ _ _ (by simp)).drew
    · exact below_drewN (below_more (below_set (below_drewN (below_more (below_more (below_alloc _ _) (by simp) _) (by simp; omega) _) _) _ _) (by simp; omega) _) 1
  case round =>
    obtain ⟨j, hj0, hj1, b0, b1, b2, b3, hB⟩ := hrel
    have hmb := mo_bd n
    have c0 := b0.c0
    have f0 := b0.frozen 0
    have c1 := b1.c0
    have c30 := b3.c0
    have c31 := b3.c1
    have c32 := b3.c2
    have f31 := b3.frozen 1
    have f32 := b3.frozen 2
    have c20 := b2.c0
    have c21 := b2.c1
    have c22 := b2.c2
    have f20 := b2.frozen 0
    have f21 := b2.frozen 1
    have f22 := b2.frozen 2
    have hmle := mlen_bd (yr n) j
    have hcb := cum_bd (yr n) j hj0 (by omega)
    have hcs := cum_succ (yr n) j hj0 (by omega)
    have HS := Lib.hid hcs; clear hcs
    by_cases hlt' : j < mo n
    · have hcm := cum_mono (yr n) (j + 1) (mo n) (by omega) (by omega) (by omega)
      have hle' := mon_le (yr n) (n - nyear (yr n)) (by omega)
      have hge : mlen (yr n) j ≤ n - nyear (yr n) - cum (yr n) j := by have := HS.out; unfold mo at *; omega
      clear hcm hle'
      go_wp2_with fail
      go_quiet ((go_at_call 214; exact q1 (i_mlen _ _ _ (by omega) (by omega))))
      go_wp2_with fail
      refine wp_region_still_tail 7 (by kernel_rfl) (by kernel_rfl) ?_
      simp only [List.take_succ_cons, List.take_zero, List.drop_succ_cons, List.drop_zero]
      change wpStill _ _ (World.drew _) (fun a' => wpList _ _ _ _ a' (World.drew _)) _ _
      repeat still_step
      still_call ((i_mlen _ _ _ (by omega) (by omega)).mono fun _ _ h => ⟨h.1, h.2.symm⟩)
      repeat still_step
      refine wpStill_nil ?_
      go_wp2
      go_roundw
      case rel =>
        refine ⟨j + 1, by omega, by omega, ?_, ?_, ?_, ?_, ?_⟩
        · rw [HS.out, show n - nyear (yr n) - (cum (yr n) j + mlen (yr n) j) = n - nyear (yr n) - cum (yr n) j - mlen (yr n) j from by omega]
          exact ((b0.drewN _).s0 _).far (by simp; omega) _
        · exact ((b1.drewN _).far (by simp) _).far (by simp) _
        · exact ((b2.drewN _).far (by simp; omega) _).far (by simp) _
        · exact ((b3.drewN _).far (by simp; omega) _).s1 _
        · exact below_set' (below_set (below_drewN hB _) _ _) (by omega) _ _
      case measure =>
        have h3 := (((b3.drewN (nq + 1)).far (p := ⟨w.heap.size, 0, none⟩) (by simp; omega) (.int .i64 (n - nyear (yr n) - cum (yr n) j - mlen (yr n) j))).s1 (.int .i64 (j + 1))).c1
        rw [h3, c31]; simp [intOf]; omega
    · obtain rfl : j = mo n := by omega
      have hlt2 : n - nyear (yr n) - cum (yr n) (mo n) < mlen (yr n) (mo n) := by have := dy_bd n; unfold dy at this; omega
      have hd : decide (mlen (yr n) (mo n) ≤ n - nyear (yr n) - cum (yr n) (mo n)) = false := by simpa using hlt2
      go_wp2_with fail
      go_quiet ((go_at_call 214; exact q1 (i_mlen _ _ _ (by omega) (by omega))))
      go_wp2_with fail
      have d := ((((b2.drewN nq).far (p := ⟨w.heap.size + 1 + 1 + 1, 2, none⟩) (by simp) (.int .i64 (n - nyear (yr n) - cum (yr n) (mo n) + 1))).s0 (.int .i64 (yr n))).s1 (.int .i64 (mo n))).s2 (.int .i64 (n - nyear (yr n) - cum (yr n) (mo n) + 1))
      refine bodyPost_ret (v := .agg #[.int .i64 (yr n), .int .i64 (mo n), .int .i64 (dy n)]) (by simp [results, Tryz.results163, go_sem, dy, d.c0, d.c1, d.c2]) rfl ⟨rfl, ?_⟩
      exact below_set' (below_set' (below_set' (below_set' (below_drewN hB _) (by omega) _ _) (by omega) _ _) (by omega) _ _) (by omega) _ _
end Go.Proofs.YtmpgokijlikddaaGreatDoor
