/- The program's and the reference's functions of numbers: each returns what the plain function says. No condition but the bounds that stand in the theorems. -/
import Derived.Test.YtmpgokijlikddaaGreatDoorRows
import Derived.Test.YtmpgokijlikddaaGreatDoorMath
import Derived.WalkKit
import Derived.ProofKit
namespace Go.Proofs.YtmpgokijlikddaaGreatDoor
open Go.RowKit
theorem s_in (n lo hi : Int) (w : World) : Calls Tryz.prog 128 #[.int .i64 n, .int .i64 lo, .int .i64 hi] w fun e w' => e = .returned (.bool (inB n lo hi)) ∧ w = w' := by
  unfold inB
  by_cases h1 : lo ≤ n <;> by_cases h2 : n ≤ hi <;> (go_enter Tryz.func128, Tryz.ntmps128; go_wp2; go_ret; exact ⟨by simp [h1, h2], rfl⟩)
theorem i_in (n lo hi : Int) (w : World) : Calls Tryz.prog 123 #[.int .i64 n, .int .i64 lo, .int .i64 hi] w fun e w' => e = .returned (.bool (inB n lo hi)) ∧ w = w' := by
  unfold inB
  by_cases h1 : lo ≤ n <;> by_cases h2 : n ≤ hi <;> (go_enter Tryz.func123, Tryz.ntmps123; go_wp2; go_ret; exact ⟨by simp [h1, h2], rfl⟩)
theorem s_day (n : Int) (w : World) : Calls Tryz.prog 71 #[.int .i64 n] w fun e w' => e = .returned (.bool (inB n 0 730499)) ∧ w = w' := by
  go_enter Tryz.func71, Tryz.ntmps71
  go_wp2_with (go_at_call 128; refine (s_in _ _ _ _).mono ?_; rintro e w' ⟨rfl, rfl⟩)
  go_ret
  exact ⟨rfl, rfl⟩
theorem i_day (n : Int) (w : World) : Calls Tryz.prog 91 #[.int .i64 n] w fun e w' => e = .returned (.bool (inB n 0 730499)) ∧ w = w' := by
  go_enter Tryz.func91, Tryz.ntmps91
  go_wp2_with (go_at_call 123; refine (i_in _ _ _ _).mono ?_; rintro e w' ⟨rfl, rfl⟩)
  go_ret
  exact ⟨rfl, rfl⟩
theorem i_year (n : Int) (w : World) : Calls Tryz.prog 192 #[.int .i64 n] w fun e w' => e = .returned (.bool (inB n 1 2000)) ∧ w = w' := by
  go_enter Tryz.func192, Tryz.ntmps192
  go_wp2_with (go_at_call 123; refine (i_in _ _ _ _).mono ?_; rintro e w' ⟨rfl, rfl⟩)
  go_ret
  exact ⟨rfl, rfl⟩
theorem s_style (n : Int) (w : World) : Calls Tryz.prog 205 #[.int .i64 n] w fun e w' => e = .returned (.bool (inB n 0 6)) ∧ w = w' := by
  go_enter Tryz.func205, Tryz.ntmps205
  go_wp2_with (go_at_call 128; refine (s_in _ _ _ _).mono ?_; rintro e w' ⟨rfl, rfl⟩)
  go_ret
  exact ⟨rfl, rfl⟩
theorem i_style (n : Int) (w : World) : Calls Tryz.prog 161 #[.int .i64 n] w fun e w' => e = .returned (.bool (inB n 0 6)) ∧ w = w' := by
  go_enter Tryz.func161, Tryz.ntmps161
  go_wp2_with (go_at_call 123; refine (i_in _ _ _ _).mono ?_; rintro e w' ⟨rfl, rfl⟩)
  go_ret
  exact ⟨rfl, rfl⟩
theorem s_styear (n : Int) (w : World) : Calls Tryz.prog 204 #[.int .i64 n] w fun e w' => e = .returned (.bool (inB n 2 1999)) ∧ w = w' := by
  go_enter Tryz.func204, Tryz.ntmps204
  go_wp2_with (go_at_call 128; refine (s_in _ _ _ _).mono ?_; rintro e w' ⟨rfl, rfl⟩)
  go_ret
  exact ⟨rfl, rfl⟩
theorem i_styear (n : Int) (w : World) : Calls Tryz.prog 160 #[.int .i64 n] w fun e w' => e = .returned (.bool (inB n 2 1999)) ∧ w = w' := by
  go_enter Tryz.func160, Tryz.ntmps160
  go_wp2_with (go_at_call 123; refine (i_in _ _ _ _).mono ?_; rintro e w' ⟨rfl, rfl⟩)
  go_ret
  exact ⟨rfl, rfl⟩
theorem s_kind (n : Int) (w : World) : Calls Tryz.prog 206 #[.int .i64 n] w fun e w' => e = .returned (.bool (inB n 0 2)) ∧ w = w' := by
  go_enter Tryz.func206, Tryz.ntmps206
  go_wp2_with (go_at_call 128; refine (s_in _ _ _ _).mono ?_; rintro e w' ⟨rfl, rfl⟩)
  go_ret
  exact ⟨rfl, rfl⟩
theorem i_kind (n : Int) (w : World) : Calls Tryz.prog 162 #[.int .i64 n] w fun e w' => e = .returned (.bool (inB n 0 2)) ∧ w = w' := by
  go_enter Tryz.func162, Tryz.ntmps162
  go_wp2_with (go_at_call 123; refine (i_in _ _ _ _).mono ?_; rintro e w' ⟨rfl, rfl⟩)
  go_ret
  exact ⟨rfl, rfl⟩
theorem s_numeral (n : Int) (w : World) : Calls Tryz.prog 116 #[.int .i64 n] w fun e w' => e = .returned (.bool (inB n 1 3999)) ∧ w = w' := by
  go_enter Tryz.func116, Tryz.ntmps116
  go_wp2_with (go_at_call 128; refine (s_in _ _ _ _).mono ?_; rintro e w' ⟨rfl, rfl⟩)
  go_ret
  exact ⟨rfl, rfl⟩
theorem i_numeral (n : Int) (w : World) : Calls Tryz.prog 109 #[.int .i64 n] w fun e w' => e = .returned (.bool (inB n 1 3999)) ∧ w = w' := by
  go_enter Tryz.func109, Tryz.ntmps109
  go_wp2_with (go_at_call 123; refine (i_in _ _ _ _).mono ?_; rintro e w' ⟨rfl, rfl⟩)
  go_ret
  exact ⟨rfl, rfl⟩
theorem s_indiction (y : Int) (w : World) (h0 : 0 ≤ y) (h1 : y ≤ 100000) : Calls Tryz.prog 209 #[.int .i64 y] w fun e w' => e = .returned (.int .i64 ((y + 2) % 15 + 1)) ∧ w = w' := by
  go_enter Tryz.func209, Tryz.ntmps209
  go_wp2
  go_ret
  exact ⟨rfl, rfl⟩
theorem i_indiction (y : Int) (w : World) (h0 : 0 ≤ y) (h1 : y ≤ 100000) : Calls Tryz.prog 218 #[.int .i64 y] w fun e w' => e = .returned (.int .i64 ((y + 2) % 15 + 1)) ∧ w = w' := by
  go_enter Tryz.func218, Tryz.ntmps218
  go_wp2
  go_ret
  exact ⟨rfl, rfl⟩
theorem s_wday (y : Int) (w : World) (h0 : 0 ≤ y) (h1 : y ≤ 100000000) : Calls Tryz.prog 157 #[.int .i64 y] w fun e w' => e = .returned (.int .i64 ((y + 5) % 7)) ∧ w = w' := by
  go_enter Tryz.func157, Tryz.ntmps157
  go_wp2
  go_ret
  exact ⟨rfl, rfl⟩
theorem i_wday (y : Int) (w : World) (h0 : 0 ≤ y) (h1 : y ≤ 100000000) : Calls Tryz.prog 169 #[.int .i64 y] w fun e w' => e = .returned (.int .i64 ((y + 5) % 7)) ∧ w = w' := by
  go_enter Tryz.func169, Tryz.ntmps169
  go_wp2
  go_ret
  exact ⟨rfl, rfl⟩
theorem i_moon (y : Int) (w : World) (h0 : 0 ≤ y) (h1 : y ≤ 100000) : Calls Tryz.prog 292 #[.int .i64 y] w fun e w' => e = .returned (.int .i64 ((19 * (y % 19) + 15) % 30)) ∧ w = w' := by
  go_enter Tryz.func292, Tryz.ntmps292
  go_wp2
  go_ret
  exact ⟨rfl, rfl⟩
theorem i_nyear (y : Int) (w : World) (h0 : 1 ≤ y) (h1 : y ≤ 100000) : Calls Tryz.prog 213 #[.int .i64 y, .bool false] w fun e w' => e = .returned (.int .i64 (nyear y)) ∧ w = w' := by
  unfold nyear
  go_enter Tryz.func213, Tryz.ntmps213
  go_wp2
  go_ret
  exact ⟨rfl, rfl⟩
theorem s_leap (y : Int) (w : World) (h0 : 0 ≤ y) (h1 : y ≤ 100000) : Calls Tryz.prog 198 #[.int .i64 y, .bool false] w fun e w' => e = .returned (.bool (leapB y)) ∧ w = w' := by
  unfold leapB
  by_cases h : y % 4 = 0
  · have hb : (y % 4 == 0) = true := by simpa using h
    go_enter Tryz.func198, Tryz.ntmps198
    go_wp2
    go_ret
    exact ⟨by simp [h], rfl⟩
  · have hb : (y % 4 == 0) = false := by simpa using h
    go_enter Tryz.func198, Tryz.ntmps198
    go_wp2
    go_ret
    exact ⟨by simp [h], rfl⟩
theorem i_leap (y : Int) (w : World) (h0 : 0 ≤ y) (h1 : y ≤ 100000) : Calls Tryz.prog 260 #[.int .i64 y, .bool false] w fun e w' => e = .returned (.bool (leapB y)) ∧ w = w' := by
  unfold leapB
  by_cases h : y % 4 = 0
  · have hb : (y % 4 == 0) = true := by simpa using h
    go_enter Tryz.func260, Tryz.ntmps260
    go_wp2
    go_ret
    exact ⟨by simp [h], rfl⟩
  · have hb : (y % 4 == 0) = false := by simpa using h
    go_enter Tryz.func260, Tryz.ntmps260
    go_wp2
    go_ret
    exact ⟨by simp [h], rfl⟩
theorem s_mlen (y m : Int) (w : World) (h0 : 0 ≤ y) (h1 : y ≤ 100000) : Calls Tryz.prog 233 #[.int .i64 y, .int .i64 m, .bool false] w fun e w' => e = .returned (.int .i64 (mlen y m)) ∧ w = w' := by
  by_cases h2 : m = 2
  · subst h2
    by_cases h : y % 4 = 0
    · have hl : leapB y = true := by simp [leapB, h]
      have hm : mlen y 2 = 29 := by simp [mlen, lp, h]
      rw [hm]; clear hm
      go_enter Tryz.func233, Tryz.ntmps233
      go_wp2_with (go_at_call 198; refine (s_leap _ _ h0 h1).mono ?_; rintro e w' ⟨rfl, rfl⟩)
      go_ret
      exact ⟨rfl, rfl⟩
    · have hl : leapB y = false := by simp [leapB, h]
      have hm : mlen y 2 = 28 := by simp [mlen, lp, h]
      rw [hm]; clear hm
      go_enter Tryz.func233, Tryz.ntmps233
      go_wp2_with (go_at_call 198; refine (s_leap _ _ h0 h1).mono ?_; rintro e w' ⟨rfl, rfl⟩)
      go_ret
      exact ⟨rfl, rfl⟩
  · have b2 : (m == 2) = false := by simpa using h2
    by_cases h : m = 4 ∨ m = 6 ∨ m = 9 ∨ m = 11
    · have hm : mlen y m = 30 := by simp [mlen, h2, h]
      rw [hm]; clear hm b2
      rcases h with rfl | rfl | rfl | rfl <;> (go_enter Tryz.func233, Tryz.ntmps233; go_wp2; go_ret; exact ⟨rfl, rfl⟩)
    · have hm : mlen y m = 31 := by simp [mlen, h2, h]
      rw [hm]; clear hm
      have b4 : (m == 4) = false := by simp; omega
      have b6 : (m == 6) = false := by simp; omega
      have b9 : (m == 9) = false := by simp; omega
      have b11 : (m == 11) = false := by simp; omega
      clear h
      go_enter Tryz.func233, Tryz.ntmps233
      go_wp2
      go_ret
      exact ⟨rfl, rfl⟩
theorem i_mlen (y m : Int) (w : World) (h0 : 0 ≤ y) (h1 : y ≤ 100000) : Calls Tryz.prog 214 #[.int .i64 y, .int .i64 m, .bool false] w fun e w' => e = .returned (.int .i64 (mlen y m)) ∧ w = w' := by
  by_cases h2 : m = 2
  · subst h2
    by_cases h : y % 4 = 0
    · have hl : leapB y = true := by simp [leapB, h]
      have hm : mlen y 2 = 29 := by simp [mlen, lp, h]
      rw [hm]; clear hm
      go_enter Tryz.func214, Tryz.ntmps214
      go_wp2_with (go_at_call 260; refine (i_leap _ _ h0 h1).mono ?_; rintro e w' ⟨rfl, rfl⟩)
      go_ret
      exact ⟨rfl, rfl⟩
    · have hl : leapB y = false := by simp [leapB, h]
      have hm : mlen y 2 = 28 := by simp [mlen, lp, h]
      rw [hm]; clear hm
      go_enter Tryz.func214, Tryz.ntmps214
      go_wp2_with (go_at_call 260; refine (i_leap _ _ h0 h1).mono ?_; rintro e w' ⟨rfl, rfl⟩)
      go_ret
      exact ⟨rfl, rfl⟩
  · have b2 : (m == 2) = false := by simpa using h2
    by_cases h : m = 4 ∨ m = 6 ∨ m = 9 ∨ m = 11
    · have hm : mlen y m = 30 := by simp [mlen, h2, h]
      rw [hm]; clear hm b2
      rcases h with rfl | rfl | rfl | rfl <;> (go_enter Tryz.func214, Tryz.ntmps214; go_wp2; go_ret; exact ⟨rfl, rfl⟩)
    · have hm : mlen y m = 31 := by simp [mlen, h2, h]
      rw [hm]; clear hm
      have b4 : (m == 4) = false := by simp; omega
      have b6 : (m == 6) = false := by simp; omega
      have b9 : (m == 9) = false := by simp; omega
      have b11 : (m == 11) = false := by simp; omega
      clear h
      go_enter Tryz.func214, Tryz.ntmps214
      go_wp2
      go_ret
      exact ⟨rfl, rfl⟩
end Go.Proofs.YtmpgokijlikddaaGreatDoor
