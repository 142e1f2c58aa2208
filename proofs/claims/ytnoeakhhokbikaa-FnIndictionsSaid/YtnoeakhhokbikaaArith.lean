/- The program's and the reference's functions of numbers: each returns what the plain function says. No condition but the bounds that stand in the theorems. -/
import Derived.Test.YtnoeakhhokbikaaRows
import Derived.Test.YtnoeakhhokbikaaMath
import Derived.WalkKit
import Derived.ProofKit
namespace Go.Proofs.Ytnoeakhhokbikaa
open Go.RowKit
theorem s_in (n lo hi : Int) (w : World) : Calls Try.prog 23 #[.int .i64 n, .int .i64 lo, .int .i64 hi] w fun e w' => e = .returned (.bool (inB n lo hi)) ∧ w = w' := by
  unfold inB
  by_cases h1 : lo ≤ n <;> by_cases h2 : n ≤ hi <;> (go_enter Try.func23, Try.ntmps23; go_wp2; go_ret; exact ⟨by simp [h1, h2], rfl⟩)
theorem i_in (n lo hi : Int) (w : World) : Calls Try.prog 27 #[.int .i64 n, .int .i64 lo, .int .i64 hi] w fun e w' => e = .returned (.bool (inB n lo hi)) ∧ w = w' := by
  unfold inB
  by_cases h1 : lo ≤ n <;> by_cases h2 : n ≤ hi <;> (go_enter Try.func27, Try.ntmps27; go_wp2; go_ret; exact ⟨by simp [h1, h2], rfl⟩)
theorem s_day (n : Int) (w : World) : Calls Try.prog 24 #[.int .i64 n] w fun e w' => e = .returned (.bool (inB n 0 730499)) ∧ w = w' := by
  go_enter Try.func24, Try.ntmps24
  go_wp2_with (go_at_call 23; refine (s_in _ _ _ _).mono ?_; rintro e w' ⟨rfl, rfl⟩)
  go_ret
  exact ⟨rfl, rfl⟩
theorem i_day (n : Int) (w : World) : Calls Try.prog 28 #[.int .i64 n] w fun e w' => e = .returned (.bool (inB n 0 730499)) ∧ w = w' := by
  go_enter Try.func28, Try.ntmps28
  go_wp2_with (go_at_call 27; refine (i_in _ _ _ _).mono ?_; rintro e w' ⟨rfl, rfl⟩)
  go_ret
  exact ⟨rfl, rfl⟩
theorem s_year (n : Int) (w : World) : Calls Try.prog 45 #[.int .i64 n] w fun e w' => e = .returned (.bool (inB n 1 2000)) ∧ w = w' := by
  go_enter Try.func45, Try.ntmps45
  go_wp2_with (go_at_call 23; refine (s_in _ _ _ _).mono ?_; rintro e w' ⟨rfl, rfl⟩)
  go_ret
  exact ⟨rfl, rfl⟩
theorem i_year (n : Int) (w : World) : Calls Try.prog 43 #[.int .i64 n] w fun e w' => e = .returned (.bool (inB n 1 2000)) ∧ w = w' := by
  go_enter Try.func43, Try.ntmps43
  go_wp2_with (go_at_call 27; refine (i_in _ _ _ _).mono ?_; rintro e w' ⟨rfl, rfl⟩)
  go_ret
  exact ⟨rfl, rfl⟩
theorem s_kind (n : Int) (w : World) : Calls Try.prog 22 #[.int .i64 n] w fun e w' => e = .returned (.bool (inB n 0 2)) ∧ w = w' := by
  go_enter Try.func22, Try.ntmps22
  go_wp2_with (go_at_call 23; refine (s_in _ _ _ _).mono ?_; rintro e w' ⟨rfl, rfl⟩)
  go_ret
  exact ⟨rfl, rfl⟩
theorem i_kind (n : Int) (w : World) : Calls Try.prog 26 #[.int .i64 n] w fun e w' => e = .returned (.bool (inB n 0 2)) ∧ w = w' := by
  go_enter Try.func26, Try.ntmps26
  go_wp2_with (go_at_call 27; refine (i_in _ _ _ _).mono ?_; rintro e w' ⟨rfl, rfl⟩)
  go_ret
  exact ⟨rfl, rfl⟩
theorem s_indiction (y : Int) (w : World) (h0 : 0 ≤ y) (h1 : y ≤ 100000) : Calls Try.prog 46 #[.int .i64 y] w fun e w' => e = .returned (.int .i64 ((y + 2) % 15 + 1)) ∧ w = w' := by
  go_enter Try.func46, Try.ntmps46
  go_wp2
  go_ret
  exact ⟨rfl, rfl⟩
theorem i_indiction (y : Int) (w : World) (h0 : 0 ≤ y) (h1 : y ≤ 100000) : Calls Try.prog 44 #[.int .i64 y] w fun e w' => e = .returned (.int .i64 ((y + 2) % 15 + 1)) ∧ w = w' := by
  go_enter Try.func44, Try.ntmps44
  go_wp2
  go_ret
  exact ⟨rfl, rfl⟩
theorem i_nyear (y : Int) (w : World) (h0 : 1 ≤ y) (h1 : y ≤ 100000) : Calls Try.prog 59 #[.int .i64 y, .bool false] w fun e w' => e = .returned (.int .i64 (nyear y)) ∧ w = w' := by
  unfold nyear
  go_enter Try.func59, Try.ntmps59
  go_wp2
  go_ret
  exact ⟨rfl, rfl⟩
theorem s_leap (y : Int) (w : World) (h0 : 0 ≤ y) (h1 : y ≤ 100000) : Calls Try.prog 61 #[.int .i64 y, .bool false] w fun e w' => e = .returned (.bool (leapB y)) ∧ w = w' := by
  unfold leapB
  by_cases h : y % 4 = 0
  · have hb : (y % 4 == 0) = true := by simpa using h
    go_enter Try.func61, Try.ntmps61
    go_wp2
    go_ret
    exact ⟨by simp [h], rfl⟩
  · have hb : (y % 4 == 0) = false := by simpa using h
    go_enter Try.func61, Try.ntmps61
    go_wp2
    go_ret
    exact ⟨by simp [h], rfl⟩
theorem i_leap (y : Int) (w : World) (h0 : 0 ≤ y) (h1 : y ≤ 100000) : Calls Try.prog 63 #[.int .i64 y, .bool false] w fun e w' => e = .returned (.bool (leapB y)) ∧ w = w' := by
  unfold leapB
  by_cases h : y % 4 = 0
  · have hb : (y % 4 == 0) = true := by simpa using h
    go_enter Try.func63, Try.ntmps63
    go_wp2
    go_ret
    exact ⟨by simp [h], rfl⟩
  · have hb : (y % 4 == 0) = false := by simpa using h
    go_enter Try.func63, Try.ntmps63
    go_wp2
    go_ret
    exact ⟨by simp [h], rfl⟩
theorem s_mlen (y m : Int) (w : World) (h0 : 0 ≤ y) (h1 : y ≤ 100000) : Calls Try.prog 53 #[.int .i64 y, .int .i64 m, .bool false] w fun e w' => e = .returned (.int .i64 (mlen y m)) ∧ w = w' := by
  by_cases h2 : m = 2
  · subst h2
    by_cases h : y % 4 = 0
    · have hl : leapB y = true := by simp [leapB, h]
      have hm : mlen y 2 = 29 := by simp [mlen, lp, h]
      rw [hm]; clear hm
      go_enter Try.func53, Try.ntmps53
      go_wp2_with (go_at_call 61; refine (s_leap _ _ h0 h1).mono ?_; rintro e w' ⟨rfl, rfl⟩)
      go_ret
      exact ⟨rfl, rfl⟩
    · have hl : leapB y = false := by simp [leapB, h]
      have hm : mlen y 2 = 28 := by simp [mlen, lp, h]
      rw [hm]; clear hm
      go_enter Try.func53, Try.ntmps53
      go_wp2_with (go_at_call 61; refine (s_leap _ _ h0 h1).mono ?_; rintro e w' ⟨rfl, rfl⟩)
      go_ret
      exact ⟨rfl, rfl⟩
  · have b2 : (m == 2) = false := by simpa using h2
    by_cases h : m = 4 ∨ m = 6 ∨ m = 9 ∨ m = 11
    · have hm : mlen y m = 30 := by simp [mlen, h2, h]
      rw [hm]; clear hm b2
      rcases h with rfl | rfl | rfl | rfl <;> (go_enter Try.func53, Try.ntmps53; go_wp2; go_ret; exact ⟨rfl, rfl⟩)
    · have hm : mlen y m = 31 := by simp [mlen, h2, h]
      rw [hm]; clear hm
      have b4 : (m == 4) = false := by simp; omega
      have b6 : (m == 6) = false := by simp; omega
      have b9 : (m == 9) = false := by simp; omega
      have b11 : (m == 11) = false := by simp; omega
      clear h
      go_enter Try.func53, Try.ntmps53
      go_wp2
      go_ret
      exact ⟨rfl, rfl⟩
theorem i_mlen (y m : Int) (w : World) (h0 : 0 ≤ y) (h1 : y ≤ 100000) : Calls Try.prog 60 #[.int .i64 y, .int .i64 m, .bool false] w fun e w' => e = .returned (.int .i64 (mlen y m)) ∧ w = w' := by
  by_cases h2 : m = 2
  · subst h2
    by_cases h : y % 4 = 0
    · have hl : leapB y = true := by simp [leapB, h]
      have hm : mlen y 2 = 29 := by simp [mlen, lp, h]
      rw [hm]; clear hm
      go_enter Try.func60, Try.ntmps60
      go_wp2_with (go_at_call 63; refine (i_leap _ _ h0 h1).mono ?_; rintro e w' ⟨rfl, rfl⟩)
      go_ret
      exact ⟨rfl, rfl⟩
    · have hl : leapB y = false := by simp [leapB, h]
      have hm : mlen y 2 = 28 := by simp [mlen, lp, h]
      rw [hm]; clear hm
      go_enter Try.func60, Try.ntmps60
      go_wp2_with (go_at_call 63; refine (i_leap _ _ h0 h1).mono ?_; rintro e w' ⟨rfl, rfl⟩)
      go_ret
      exact ⟨rfl, rfl⟩
  · have b2 : (m == 2) = false := by simpa using h2
    by_cases h : m = 4 ∨ m = 6 ∨ m = 9 ∨ m = 11
    · have hm : mlen y m = 30 := by simp [mlen, h2, h]
      rw [hm]; clear hm b2
      rcases h with rfl | rfl | rfl | rfl <;> (go_enter Try.func60, Try.ntmps60; go_wp2; go_ret; exact ⟨rfl, rfl⟩)
    · have hm : mlen y m = 31 := by simp [mlen, h2, h]
      rw [hm]; clear hm
      have b4 : (m == 4) = false := by simp; omega
      have b6 : (m == 6) = false := by simp; omega
      have b9 : (m == 9) = false := by simp; omega
      have b11 : (m == 11) = false := by simp; omega
      clear h
      go_enter Try.func60, Try.ntmps60
      go_wp2
      go_ret
      exact ⟨rfl, rfl⟩
end Go.Proofs.Ytnoeakhhokbikaa
