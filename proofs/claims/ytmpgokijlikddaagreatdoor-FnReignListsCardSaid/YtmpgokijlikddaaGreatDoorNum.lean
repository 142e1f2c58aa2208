/- The number of an old date: the program's dayOf and the reference's l01Number return it. Conditions: the bounds that stand in the theorems. -/
import Derived.Test.YtmpgokijlikddaaGreatDoorArith
import Derived.Test.YtmpgokijlikddaaGreatDoorKit
namespace Go.Proofs.YtmpgokijlikddaaGreatDoor
open Go.RowKit
theorem s_num (y m d : Int) (w : World) (h0 : 1 ≤ y) (h1 : y ≤ 100000) (hm0 : 1 ≤ m) (hm1 : m ≤ 12) (hd0 : -100000 ≤ d) (hd1 : d ≤ 100000) :
    Calls Tryz.prog 186 #[.agg #[.int .i64 y, .int .i64 m, .int .i64 d], .bool false] w fun e w' => e = .returned (.int .i64 (num y m d)) ∧ Below w.heap.size w w' := by
  have hn := nyear_bd y h0 h1
  have e0 : 365 * (y - 1) + (y - 1) / 4 + d - 1 = num y 1 d := by unfold num nyear; rw [cum_one]; omega
  have H0 := Lib.hid e0; clear e0
  go_enter Tryz.func186, Tryz.ntmps186
  go_wp2
  go_loop [6, 7] (fun n k => ∃ j : Int, 1 ≤ j ∧ j ≤ m ∧ k = .int .i64 j ∧ n = .int .i64 (num y j d)) (fun _ k => (m - intOf k).toNat)
  case atStart => exact ⟨1, by omega, hm0, rfl, by rw [H0.out]⟩
  case round =>
    obtain ⟨j, hj0, hj1, rfl, rfl⟩ := hrel
    have hc := cum_bd y j hj0 (by omega)
    have hl := mlen_bd y j
    have hnb : -200000 ≤ num y j d ∧ num y j d ≤ 100000000 := by unfold num; omega
    have hs : num y j d + mlen y j = num y (j + 1) d := by unfold num; rw [cum_succ y j hj0 (by omega)]; omega
    have HS := Lib.hid hs; clear hs
    obtain ⟨hb1, hb2⟩ := hnb
    obtain ⟨hb3, hb4⟩ := hl
    by_cases hlt : j < m
    · go_wp2_with (go_at_call 233; refine (s_mlen _ _ _ (by omega) (by omega)).mono ?_; rintro e w' ⟨rfl, rfl⟩)
      go_round
      case rel => exact ⟨j + 1, by omega, by omega, rfl, by rw [HS.out]⟩
      case measure => simp [intOf]; omega
    · obtain rfl : j = m := by omega
      go_wp2
      go_ret
      exact ⟨rfl, (Below.refl _ _).alloc (Nat.le_refl _) _⟩
theorem i_num (y m d : Int) (w : World) (h0 : 1 ≤ y) (h1 : y ≤ 100000) (hm0 : 1 ≤ m) (hm1 : m ≤ 12) (hd0 : -100000 ≤ d) (hd1 : d ≤ 100000) :
    Calls Tryz.prog 194 #[.agg #[.int .i64 y, .int .i64 m, .int .i64 d], .bool false] w fun e w' => e = .returned (.int .i64 (num y m d)) ∧ Below w.heap.size w w' := by
  have hn := nyear_bd y h0 h1
  have e0 : nyear y + d - 1 = num y 1 d := by unfold num; rw [cum_one]; omega
  have H0 := Lib.hid e0; clear e0
  obtain ⟨hn0, hn1⟩ := hn
  go_enter Tryz.func194, Tryz.ntmps194
  go_wp2
  go_quiet ((go_at_call 213; exact q1 (i_nyear _ _ h0 h1)))
  go_wp2
  go_loop [5, 6] (fun n k => ∃ j : Int, 1 ≤ j ∧ j ≤ m ∧ k = .int .i64 j ∧ n = .int .i64 (num y j d)) (fun _ k => (m - intOf k).toNat)
  case atStart => exact ⟨1, by omega, hm0, rfl, by rw [H0.out]⟩
  case round =>
    obtain ⟨j, hj0, hj1, rfl, rfl⟩ := hrel
    have hc := cum_bd y j hj0 (by omega)
    have hl := mlen_bd y j
    have hnb : -200000 ≤ num y j d ∧ num y j d ≤ 100000000 := by unfold num; omega
    have hs : num y j d + mlen y j = num y (j + 1) d := by unfold num; rw [cum_succ y j hj0 (by omega)]; omega
    have HS := Lib.hid hs; clear hs
    obtain ⟨hb1, hb2⟩ := hnb
    obtain ⟨hb3, hb4⟩ := hl
    by_cases hlt : j < m
    · go_wp2_with (go_at_call 214; refine (i_mlen _ _ _ (by omega) (by omega)).mono ?_; rintro e w' ⟨rfl, rfl⟩)
      go_round
      case rel => exact ⟨j + 1, by omega, by omega, rfl, by rw [HS.out]⟩
      case measure => simp [intOf]; omega
    · obtain rfl : j = m := by omega
      go_wp2
      go_ret
      exact ⟨rfl, below_drewN ((Below.refl _ _).alloc (Nat.le_refl _) _) _⟩
set_option maxHeartbeats 1000000 in
theorem s_valid (y m d : Int) (w : World) : Calls Tryz.prog 258 #[.agg #[.int .i64 y, .int .i64 m, .int .i64 d], .bool false] w fun e w' => e = .returned (.bool (validB y m d)) ∧ Below w.heap.size w w' := by
  by_cases hy : inB y 1 2000 = true
  · by_cases hm : inB m 1 12 = true
    · have hv : inB d 1 (mlen y m) = validB y m d := by
        rw [inB_iff] at hy hm
        unfold inB validB; simp [hy, hm]
      rw [← hv]; clear hv
      have hy' := inB_iff.1 hy
      obtain ⟨hy0, hy1⟩ := hy'
      obtain ⟨bd, hbd⟩ : ∃ b, inB d 1 (mlen y m) = b := ⟨_, rfl⟩
      rw [hbd]
      go_enter Tryz.func258, Tryz.ntmps258
      go_wp2
      go_quiet ((first | (go_at_call 233; exact q1 (s_mlen _ _ _ (by omega) (by omega))) | (go_at_call 128; exact q1 (toB (s_in _ _ _ _) (by assumption)))))
      go_wp2
      go_ret
      exact ⟨rfl, below_drewN ((Below.refl _ _).alloc (Nat.le_refl _) _) _⟩
    · have hm' : inB m 1 12 = false := by simpa using hm
      have hv : validB y m d = false := by
        rw [validB_not]; rw [inB_not] at hm'; omega
      rw [hv]; clear hv hm
      go_enter Tryz.func258, Tryz.ntmps258
      go_wp2
      go_quiet ((go_at_call 128; exact q1 (toB (s_in _ _ _ _) (by assumption))))
      go_wp2
      go_ret
      exact ⟨rfl, below_drewN ((Below.refl _ _).alloc (Nat.le_refl _) _) _⟩
  · have hy' : inB y 1 2000 = false := by simpa using hy
    have hv : validB y m d = false := by
      rw [validB_not]; rw [inB_not] at hy'; omega
    rw [hv]; clear hv hy
    go_enter Tryz.func258, Tryz.ntmps258
    go_wp2
    go_quiet ((go_at_call 128; exact q1 (toB (s_in _ _ _ _) (by assumption))))
    go_wp2
    go_ret
    exact ⟨rfl, below_drewN ((Below.refl _ _).alloc (Nat.le_refl _) _) _⟩
set_option maxHeartbeats 1000000 in
theorem i_valid (y m d : Int) (w : World) : Calls Tryz.prog 248 #[.agg #[.int .i64 y, .int .i64 m, .int .i64 d], .bool false] w fun e w' => e = .returned (.bool (validB y m d)) ∧ Below w.heap.size w w' := by
  by_cases hy : inB y 1 2000 = true
  · by_cases hm : inB m 1 12 = true
    · have hv : inB d 1 (mlen y m) = validB y m d := by
        rw [inB_iff] at hy hm
        unfold inB validB; simp [hy, hm]
      rw [← hv]; clear hv
      have hy' := inB_iff.1 hy
      obtain ⟨hy0, hy1⟩ := hy'
      obtain ⟨bd, hbd⟩ : ∃ b, inB d 1 (mlen y m) = b := ⟨_, rfl⟩
      rw [hbd]
      go_enter Tryz.func248, Tryz.ntmps248
      go_wp2
      go_quiet ((first | (go_at_call 214; exact q1 (i_mlen _ _ _ (by omega) (by omega))) | (go_at_call 123; exact q1 (toB (i_in _ _ _ _) (by assumption)))))
      go_wp2
      go_ret
      exact ⟨rfl, below_drewN ((Below.refl _ _).alloc (Nat.le_refl _) _) _⟩
    · have hm' : inB m 1 12 = false := by simpa using hm
      have hv : validB y m d = false := by
        rw [validB_not]; rw [inB_not] at hm'; omega
      rw [hv]; clear hv hm
      go_enter Tryz.func248, Tryz.ntmps248
      go_wp2
      go_quiet ((go_at_call 123; exact q1 (toB (i_in _ _ _ _) (by assumption))))
      go_wp2
      go_ret
      exact ⟨rfl, below_drewN ((Below.refl _ _).alloc (Nat.le_refl _) _) _⟩
  · have hy' : inB y 1 2000 = false := by simpa using hy
    have hv : validB y m d = false := by
      rw [validB_not]; rw [inB_not] at hy'; omega
    rw [hv]; clear hv hy
    go_enter Tryz.func248, Tryz.ntmps248
    go_wp2
    go_quiet ((go_at_call 123; exact q1 (toB (i_in _ _ _ _) (by assumption))))
    go_wp2
    go_ret
    exact ⟨rfl, below_drewN ((Below.refl _ _).alloc (Nat.le_refl _) _) _⟩
theorem s_old (y m d : Int) (w : World) : Calls Tryz.prog 201 #[.agg #[.int .i64 y, .int .i64 m, .int .i64 d]] w fun e w' => e = .returned (.bool (validB y m d)) ∧ Below w.heap.size w w' := by
  go_enter Tryz.func201, Tryz.ntmps201
  go_wp2_with (go_at_call 258; refine (s_valid _ _ _ _).mono ?_; rintro e w1 ⟨rfl, hb⟩)
  go_ret
  exact ⟨rfl, below_step (below_alloc _ _) hb⟩
theorem i_old (y m d : Int) (w : World) : Calls Tryz.prog 193 #[.agg #[.int .i64 y, .int .i64 m, .int .i64 d]] w fun e w' => e = .returned (.bool (validB y m d)) ∧ Below w.heap.size w w' := by
  go_enter Tryz.func193, Tryz.ntmps193
  go_wp2_with (go_at_call 248; refine (i_valid _ _ _ _).mono ?_; rintro e w1 ⟨rfl, hb⟩)
  go_ret
  exact ⟨rfl, below_step (below_alloc _ _) hb⟩
theorem i_monthDay (m d : Int) (w : World) : Calls Tryz.prog 158 #[.int .i64 m, .int .i64 d] w fun e w' => e = .returned (.bool (validB 4 m d)) ∧ Below w.heap.size w w' := by
  go_enter Tryz.func158, Tryz.ntmps158
  go_wp2_with (go_at_call 193; refine (i_old _ _ _ _).mono ?_; rintro e w1 ⟨rfl, hb⟩)
  go_ret
  exact ⟨rfl, hb⟩
end Go.Proofs.YtmpgokijlikddaaGreatDoor
