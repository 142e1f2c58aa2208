/- The number of an old date: the program's dayOf and the reference's l01Number return it. Conditions: the bounds that stand in the theorems. -/
import Derived.Test.YtnoeakhhokbikaaArith
import Derived.Test.YtnoeakhhokbikaaKit
namespace Go.Proofs.Ytnoeakhhokbikaa
open Go.RowKit
theorem s_num (y m d : Int) (w : World) (h0 : 1 ≤ y) (h1 : y ≤ 100000) (hm0 : 1 ≤ m) (hm1 : m ≤ 12) (hd0 : -100000 ≤ d) (hd1 : d ≤ 100000) :
    Calls Try.prog 37 #[.agg #[.int .i64 y, .int .i64 m, .int .i64 d], .bool false] w fun e w' => e = .returned (.int .i64 (num y m d)) ∧ Below w.heap.size w w' := by
  have hn := nyear_bd y h0 h1
  have e0 : 365 * (y - 1) + (y - 1) / 4 + d - 1 = num y 1 d := by unfold num nyear; rw [cum_one]; omega
  have H0 := Lib.hid e0; clear e0
  go_enter Try.func37, Try.ntmps37
  go_wp2
  go_loop [6, 7] (fun n k => ∃ j : Int, 1 ≤ j ∧ j ≤ m ∧ k = .int .i64 j ∧ n = .int .i64 (num y j d)) (fun _ k => (m - intOf k).toNat)
  case atStart => exact ⟨1, by omega, hm0, rfl, by rw [H0.out]⟩
  case round =>
    obtain ⟨j, hj0, hj1, rfl, rfl⟩ := hrel
    have hc := cum_bd y j hj0 (by omega)
    have hl := mlen_bd y j
    have hnb : -200000 ≤ num y j d ∧ num y j d ≤ 100000000 := by unfold num; omega
    have hs : num y j d + mlen y j = num y (j + 1) d := by unfold num; rw [cum_succ y j hj0 (by omega)]; omega
    have HS := Lib.hid hs; clear hs
    obtain ⟨hb1, hb2⟩ := hnb
    obtain ⟨hb3, hb4⟩ := hl
    by_cases hlt : j < m
    · go_wp2_with (go_at_call 53; refine (s_mlen _ _ _ (by omega) (by omega)).mono ?_; rintro e w' ⟨rfl, rfl⟩)
      go_round
      case rel => exact ⟨j + 1, by omega, by omega, rfl, by rw [HS.out]⟩
      case measure => simp [intOf]; omega
    · obtain rfl : j = m := by omega
      go_wp2
      go_ret
      exact ⟨rfl, (Below.refl _ _).alloc (Nat.le_refl _) _⟩
theorem i_num (y m d : Int) (w : World) (h0 : 1 ≤ y) (h1 : y ≤ 100000) (hm0 : 1 ≤ m) (hm1 : m ≤ 12) (hd0 : -100000 ≤ d) (hd1 : d ≤ 100000) :
    Calls Try.prog 52 #[.agg #[.int .i64 y, .int .i64 m, .int .i64 d], .bool false] w fun e w' => e = .returned (.int .i64 (num y m d)) ∧ Below w.heap.size w w' := by
  have hn := nyear_bd y h0 h1
  have e0 : nyear y + d - 1 = num y 1 d := by unfold num; rw [cum_one]; omega
  have H0 := Lib.hid e0; clear e0
  obtain ⟨hn0, hn1⟩ := hn
  go_enter Try.func52, Try.ntmps52
  go_wp2
  go_quiet ((go_at_call 59; exact q1 (i_nyear _ _ h0 h1)))
  go_wp2
  go_loop [5, 6] (fun n k => ∃ j : Int, 1 ≤ j ∧ j ≤ m ∧ k = .int .i64 j ∧ n = .int .i64 (num y j d)) (fun _ k => (m - intOf k).toNat)
  case atStart => exact ⟨1, by omega, hm0, rfl, by rw [H0.out]⟩
  case round =>
    obtain ⟨j, hj0, hj1, rfl, rfl⟩ := hrel
    have hc := cum_bd y j hj0 (by omega)
    have hl := mlen_bd y j
    have hnb : -200000 ≤ num y j d ∧ num y j d ≤ 100000000 := by unfold num; omega
    have hs : num y j d + mlen y j = num y (j + 1) d := by unfold num; rw [cum_succ y j hj0 (by omega)]; omega
    have HS := Lib.hid hs; clear hs
    obtain ⟨hb1, hb2⟩ := hnb
    obtain ⟨hb3, hb4⟩ := hl
    by_cases hlt : j < m
    · go_wp2_with (go_at_call 60; refine (i_mlen _ _ _ (by omega) (by omega)).mono ?_; rintro e w' ⟨rfl, rfl⟩)
      go_round
      case rel => exact ⟨j + 1, by omega, by omega, rfl, by rw [HS.out]⟩
      case measure => simp [intOf]; omega
    · obtain rfl : j = m := by omega
      go_wp2
      go_ret
      exact ⟨rfl, below_drewN ((Below.refl _ _).alloc (Nat.le_refl _) _) _⟩
end Go.Proofs.Ytnoeakhhokbikaa
