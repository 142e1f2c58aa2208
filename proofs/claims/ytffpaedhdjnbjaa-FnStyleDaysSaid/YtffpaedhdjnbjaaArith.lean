/- The program's and the reference's functions of numbers: each returns what the plain function says. No condition but the bounds that stand in the theorems. -/
import Derived.Test.YtffpaedhdjnbjaaRows
import Derived.Test.YtffpaedhdjnbjaaMath
import Derived.WalkKit
import Derived.ProofKit
namespace Go.Proofs.Ytffpaedhdjnbjaa
open Go.RowKit
theorem s_in (n lo hi : Int) (w : World) : Calls Try.prog 48 #[.int .i64 n, .int .i64 lo, .int .i64 hi] w fun e w' => e = .returned (.bool (inB n lo hi)) ∧ w = w' := by
  unfold inB
  by_cases h1 : lo ≤ n <;> by_cases h2 : n ≤ hi <;> (go_enter Try.func48, Try.ntmps48; go_wp2; go_ret; exact ⟨by simp [h1, h2], rfl⟩)
theorem i_in (n lo hi : Int) (w : World) : Calls Try.prog 52 #[.int .i64 n, .int .i64 lo, .int .i64 hi] w fun e w' => e = .returned (.bool (inB n lo hi)) ∧ w = w' := by
  unfold inB
  by_cases h1 : lo ≤ n <;> by_cases h2 : n ≤ hi <;> (go_enter Try.func52, Try.ntmps52; go_wp2; go_ret; exact ⟨by simp [h1, h2], rfl⟩)
theorem s_day (n : Int) (w : World) : Calls Try.prog 49 #[.int .i64 n] w fun e w' => e = .returned (.bool (inB n 0 730499)) ∧ w = w' := by
  go_enter Try.func49, Try.ntmps49
  go_wp2_with (go_at_call 48; refine (s_in _ _ _ _).mono ?_; rintro e w' ⟨rfl, rfl⟩)
  go_ret
  exact ⟨rfl, rfl⟩
theorem i_day (n : Int) (w : World) : Calls Try.prog 53 #[.int .i64 n] w fun e w' => e = .returned (.bool (inB n 0 730499)) ∧ w = w' := by
  go_enter Try.func53, Try.ntmps53
  go_wp2_with (go_at_call 52; refine (i_in _ _ _ _).mono ?_; rintro e w' ⟨rfl, rfl⟩)
  go_ret
  exact ⟨rfl, rfl⟩
theorem s_year (n : Int) (w : World) : Calls Try.prog 63 #[.int .i64 n] w fun e w' => e = .returned (.bool (inB n 1 2000)) ∧ w = w' := by
  go_enter Try.func63, Try.ntmps63
  go_wp2_with (go_at_call 48; refine (s_in _ _ _ _).mono ?_; rintro e w' ⟨rfl, rfl⟩)
  go_ret
  exact ⟨rfl, rfl⟩
theorem i_year (n : Int) (w : World) : Calls Try.prog 61 #[.int .i64 n] w fun e w' => e = .returned (.bool (inB n 1 2000)) ∧ w = w' := by
  go_enter Try.func61, Try.ntmps61
  go_wp2_with (go_at_call 52; refine (i_in _ _ _ _).mono ?_; rintro e w' ⟨rfl, rfl⟩)
  go_ret
  exact ⟨rfl, rfl⟩
theorem s_style (n : Int) (w : World) : Calls Try.prog 76 #[.int .i64 n] w fun e w' => e = .returned (.bool (inB n 0 6)) ∧ w = w' := by
  go_enter Try.func76, Try.ntmps76
  go_wp2_with (go_at_call 48; refine (s_in _ _ _ _).mono ?_; rintro e w' ⟨rfl, rfl⟩)
  go_ret
  exact ⟨rfl, rfl⟩
theorem i_style (n : Int) (w : World) : Calls Try.prog 72 #[.int .i64 n] w fun e w' => e = .returned (.bool (inB n 0 6)) ∧ w = w' := by
  go_enter Try.func72, Try.ntmps72
  go_wp2_with (go_at_call 52; refine (i_in _ _ _ _).mono ?_; rintro e w' ⟨rfl, rfl⟩)
  go_ret
  exact ⟨rfl, rfl⟩
theorem s_styear (n : Int) (w : World) : Calls Try.prog 77 #[.int .i64 n] w fun e w' => e = .returned (.bool (inB n 2 1999)) ∧ w = w' := by
  go_enter Try.func77, Try.ntmps77
  go_wp2_with (go_at_call 48; refine (s_in _ _ _ _).mono ?_; rintro e w' ⟨rfl, rfl⟩)
  go_ret
  exact ⟨rfl, rfl⟩
theorem i_styear (n : Int) (w : World) : Calls Try.prog 73 #[.int .i64 n] w fun e w' => e = .returned (.bool (inB n 2 1999)) ∧ w = w' := by
  go_enter Try.func73, Try.ntmps73
  go_wp2_with (go_at_call 52; refine (i_in _ _ _ _).mono ?_; rintro e w' ⟨rfl, rfl⟩)
  go_ret
  exact ⟨rfl, rfl⟩
theorem s_kind (n : Int) (w : World) : Calls Try.prog 47 #[.int .i64 n] w fun e w' => e = .returned (.bool (inB n 0 2)) ∧ w = w' := by
  go_enter Try.func47, Try.ntmps47
  go_wp2_with (go_at_call 48; refine (s_in _ _ _ _).mono ?_; rintro e w' ⟨rfl, rfl⟩)
  go_ret
  exact ⟨rfl, rfl⟩
theorem i_kind (n : Int) (w : World) : Calls Try.prog 51 #[.int .i64 n] w fun e w' => e = .returned (.bool (inB n 0 2)) ∧ w = w' := by
  go_enter Try.func51, Try.ntmps51
  go_wp2_with (go_at_call 52; refine (i_in _ _ _ _).mono ?_; rintro e w' ⟨rfl, rfl⟩)
  go_ret
  exact ⟨rfl, rfl⟩
theorem s_indiction (y : Int) (w : World) (h0 : 0 ≤ y) (h1 : y ≤ 100000) : Calls Try.prog 64 #[.int .i64 y] w fun e w' => e = .returned (.int .i64 ((y + 2) % 15 + 1)) ∧ w = w' := by
  go_enter Try.func64, Try.ntmps64
  go_wp2
  go_ret
  exact ⟨rfl, rfl⟩
theorem i_indiction (y : Int) (w : World) (h0 : 0 ≤ y) (h1 : y ≤ 100000) : Calls Try.prog 89 #[.int .i64 y] w fun e w' => e = .returned (.int .i64 ((y + 2) % 15 + 1)) ∧ w = w' := by
  go_enter Try.func89, Try.ntmps89
  go_wp2
  go_ret
  exact ⟨rfl, rfl⟩
theorem s_epact (y : Int) (w : World) (h0 : 0 ≤ y) (h1 : y ≤ 100000) : Calls Try.prog 65 #[.int .i64 y] w fun e w' => e = .returned (.int .i64 (11 * (y % 19) % 30)) ∧ w = w' := by
  go_enter Try.func65, Try.ntmps65
  go_wp2
  go_ret
  exact ⟨rfl, rfl⟩
theorem s_wday (y : Int) (w : World) (h0 : 0 ≤ y) (h1 : y ≤ 100000000) : Calls Try.prog 96 #[.int .i64 y] w fun e w' => e = .returned (.int .i64 ((y + 5) % 7)) ∧ w = w' := by
  go_enter Try.func96, Try.ntmps96
  go_wp2
  go_ret
  exact ⟨rfl, rfl⟩
theorem i_wday (y : Int) (w : World) (h0 : 0 ≤ y) (h1 : y ≤ 100000000) : Calls Try.prog 95 #[.int .i64 y] w fun e w' => e = .returned (.int .i64 ((y + 5) % 7)) ∧ w = w' := by
  go_enter Try.func95, Try.ntmps95
  go_wp2
  go_ret
  exact ⟨rfl, rfl⟩
theorem i_moon (y : Int) (w : World) (h0 : 0 ≤ y) (h1 : y ≤ 100000) : Calls Try.prog 115 #[.int .i64 y] w fun e w' => e = .returned (.int .i64 ((19 * (y % 19) + 15) % 30)) ∧ w = w' := by
  go_enter Try.func115, Try.ntmps115
  go_wp2
  go_ret
  exact ⟨rfl, rfl⟩
theorem i_nyear (y : Int) (w : World) (h0 : 1 ≤ y) (h1 : y ≤ 100000) : Calls Try.prog 103 #[.int .i64 y, .bool false] w fun e w' => e = .returned (.int .i64 (nyear y)) ∧ w = w' := by
  unfold nyear
  go_enter Try.func103, Try.ntmps103
  go_wp2
  go_ret
  exact ⟨rfl, rfl⟩
theorem s_leap (y : Int) (w : World) (h0 : 0 ≤ y) (h1 : y ≤ 100000) : Calls Try.prog 113 #[.int .i64 y, .bool false] w fun e w' => e = .returned (.bool (leapB y)) ∧ w = w' := by
  unfold leapB
  by_cases h : y % 4 = 0
  · have hb : (y % 4 == 0) = true := by simpa using h
    go_enter Try.func113, Try.ntmps113
    go_wp2
    go_ret
    exact ⟨by simp [h], rfl⟩
  · have hb : (y % 4 == 0) = false := by simpa using h
    go_enter Try.func113, Try.ntmps113
    go_wp2
    go_ret
    exact ⟨by simp [h], rfl⟩
theorem i_leap (y : Int) (w : World) (h0 : 0 ≤ y) (h1 : y ≤ 100000) : Calls Try.prog 112 #[.int .i64 y, .bool false] w fun e w' => e = .returned (.bool (leapB y)) ∧ w = w' := by
  unfold leapB
  by_cases h : y % 4 = 0
  · have hb : (y % 4 == 0) = true := by simpa using h
    go_enter Try.func112, Try.ntmps112
    go_wp2
    go_ret
    exact ⟨by simp [h], rfl⟩
  · have hb : (y % 4 == 0) = false := by simpa using h
    go_enter Try.func112, Try.ntmps112
    go_wp2
    go_ret
    exact ⟨by simp [h], rfl⟩
theorem s_mlen (y m : Int) (w : World) (h0 : 0 ≤ y) (h1 : y ≤ 100000) : Calls Try.prog 105 #[.int .i64 y, .int .i64 m, .bool false] w fun e w' => e = .returned (.int .i64 (mlen y m)) ∧ w = w' := by
  by_cases h2 : m = 2
  · subst h2
    by_cases h : y % 4 = 0
    · have hl : leapB y = true := by simp [leapB, h]
      have hm : mlen y 2 = 29 := by simp [mlen, lp, h]
      rw [hm]; clear hm
      go_enter Try.func105, Try.ntmps105
      go_wp2_with (go_at_call 113; refine (s_leap _ _ h0 h1).mono ?_; rintro e w' ⟨rfl, rfl⟩)
      go_ret
      exact ⟨rfl, rfl⟩
    · have hl : leapB y = false := by simp [leapB, h]
      have hm : mlen y 2 = 28 := by simp [mlen, lp, h]
      rw [hm]; clear hm
      go_enter Try.func105, Try.ntmps105
      go_wp2_with (go_at_call 113; refine (s_leap _ _ h0 h1).mono ?_; rintro e w' ⟨rfl, rfl⟩)
      go_ret
      exact ⟨rfl, rfl⟩
  · have b2 : (m == 2) = false := by simpa using h2
    by_cases h : m = 4 ∨ m = 6 ∨ m = 9 ∨ m = 11
    · have hm : mlen y m = 30 := by simp [mlen, h2, h]
      rw [hm]; clear hm b2
      rcases h with rfl | rfl | rfl | rfl <;> (go_enter Try.func105, Try.ntmps105; go_wp2; go_ret; exact ⟨rfl, rfl⟩)
    · have hm : mlen y m = 31 := by simp [mlen, h2, h]
      rw [hm]; clear hm
      have b4 : (m == 4) = false := by simp; omega
      have b6 : (m == 6) = false := by simp; omega
      have b9 : (m == 9) = false := by simp; omega
      have b11 : (m == 11) = false := by simp; omega
      clear h
      go_enter Try.func105, Try.ntmps105
      go_wp2
      go_ret
      exact ⟨rfl, rfl⟩
theorem i_mlen (y m : Int) (w : World) (h0 : 0 ≤ y) (h1 : y ≤ 100000) : Calls Try.prog 104 #[.int .i64 y, .int .i64 m, .bool false] w fun e w' => e = .returned (.int .i64 (mlen y m)) ∧ w = w' := by
  by_cases h2 : m = 2
  · subst h2
    by_cases h : y % 4 = 0
    · have hl : leapB y = true := by simp [leapB, h]
      have hm : mlen y 2 = 29 := by simp [mlen, lp, h]
      rw [hm]; clear hm
      go_enter Try.func104, Try.ntmps104
      go_wp2_with (go_at_call 112; refine (i_leap _ _ h0 h1).mono ?_; rintro e w' ⟨rfl, rfl⟩)
      go_ret
      exact ⟨rfl, rfl⟩
    · have hl : leapB y = false := by simp [leapB, h]
      have hm : mlen y 2 = 28 := by simp [mlen, lp, h]
      rw [hm]; clear hm
      go_enter Try.func104, Try.ntmps104
      go_wp2_with (go_at_call 112; refine (i_leap _ _ h0 h1).mono ?_; rintro e w' ⟨rfl, rfl⟩)
      go_ret
      exact ⟨rfl, rfl⟩
  · have b2 : (m == 2) = false := by simpa using h2
    by_cases h : m = 4 ∨ m = 6 ∨ m = 9 ∨ m = 11
    · have hm : mlen y m = 30 := by simp [mlen, h2, h]
      rw [hm]; clear hm b2
      rcases h with rfl | rfl | rfl | rfl <;> (go_enter Try.func104, Try.ntmps104; go_wp2; go_ret; exact ⟨rfl, rfl⟩)
    · have hm : mlen y m = 31 := by simp [mlen, h2, h]
      rw [hm]; clear hm
      have b4 : (m == 4) = false := by simp; omega
      have b6 : (m == 6) = false := by simp; omega
      have b9 : (m == 9) = false := by simp; omega
      have b11 : (m == 11) = false := by simp; omega
      clear h
      go_enter Try.func104, Try.ntmps104
      go_wp2
      go_ret
      exact ⟨rfl, rfl⟩
end Go.Proofs.Ytffpaedhdjnbjaa
