/- The program's and the reference's functions of numbers: each returns what the plain function says. No condition but the bounds that stand in the theorems. -/
import Derived.Test.YtelppggliieniaaGreatDoorRows
import Derived.Test.YtelppggliieniaaGreatDoorMath
import Derived.WalkKit
import Derived.ProofKit
namespace Go.Proofs.YtelppggliieniaaGreatDoor
open Go.RowKit
theorem s_in (n lo hi : Int) (w : World) : Calls Tryz.prog 119 #[.int .i64 n, .int .i64 lo, .int .i64 hi] w fun e w' => e = .returned (.bool (inB n lo hi)) ∧ w = w' := by
  unfold inB
  by_cases h1 : lo ≤ n <;> by_cases h2 : n ≤ hi <;> (go_enter Tryz.func119, Tryz.ntmps119; go_wp2; go_ret; exact ⟨by simp [h1, h2], rfl⟩)
theorem i_in (n lo hi : Int) (w : World) : Calls Tryz.prog 121 #[.int .i64 n, .int .i64 lo, .int .i64 hi] w fun e w' => e = .returned (.bool (inB n lo hi)) ∧ w = w' := by
  unfold inB
  by_cases h1 : lo ≤ n <;> by_cases h2 : n ≤ hi <;> (go_enter Tryz.func121, Tryz.ntmps121; go_wp2; go_ret; exact ⟨by simp [h1, h2], rfl⟩)
theorem s_day (n : Int) (w : World) : Calls Tryz.prog 90 #[.int .i64 n] w fun e w' => e = .returned (.bool (inB n 0 730499)) ∧ w = w' := by
  go_enter Tryz.func90, Tryz.ntmps90
  go_wp2_with (go_at_call 119; refine (s_in _ _ _ _).mono ?_; rintro e w' ⟨rfl, rfl⟩)
  go_ret
  exact ⟨rfl, rfl⟩
theorem i_day (n : Int) (w : World) : Calls Tryz.prog 110 #[.int .i64 n] w fun e w' => e = .returned (.bool (inB n 0 730499)) ∧ w = w' := by
  go_enter Tryz.func110, Tryz.ntmps110
  go_wp2_with (go_at_call 121; refine (i_in _ _ _ _).mono ?_; rintro e w' ⟨rfl, rfl⟩)
  go_ret
  exact ⟨rfl, rfl⟩
theorem i_year (n : Int) (w : World) : Calls Tryz.prog 218 #[.int .i64 n] w fun e w' => e = .returned (.bool (inB n 1 2000)) ∧ w = w' := by
  go_enter Tryz.func218, Tryz.ntmps218
  go_wp2_with (go_at_call 121; refine (i_in _ _ _ _).mono ?_; rintro e w' ⟨rfl, rfl⟩)
  go_ret
  exact ⟨rfl, rfl⟩
theorem s_style (n : Int) (w : World) : Calls Tryz.prog 240 #[.int .i64 n] w fun e w' => e = .returned (.bool (inB n 0 6)) ∧ w = w' := by
  go_enter Tryz.func240, Tryz.ntmps240
  go_wp2_with (go_at_call 119; refine (s_in _ _ _ _).mono ?_; rintro e w' ⟨rfl, rfl⟩)
  go_ret
  exact ⟨rfl, rfl⟩
theorem i_style (n : Int) (w : World) : Calls Tryz.prog 192 #[.int .i64 n] w fun e w' => e = .returned (.bool (inB n 0 6)) ∧ w = w' := by
  go_enter Tryz.func192, Tryz.ntmps192
  go_wp2_with (go_at_call 121; refine (i_in _ _ _ _).mono ?_; rintro e w' ⟨rfl, rfl⟩)
  go_ret
  exact ⟨rfl, rfl⟩
theorem s_styear (n : Int) (w : World) : Calls Tryz.prog 239 #[.int .i64 n] w fun e w' => e = .returned (.bool (inB n 2 1999)) ∧ w = w' := by
  go_enter Tryz.func239, Tryz.ntmps239
  go_wp2_with (go_at_call 119; refine (s_in _ _ _ _).mono ?_; rintro e w' ⟨rfl, rfl⟩)
  go_ret
  exact ⟨rfl, rfl⟩
theorem i_styear (n : Int) (w : World) : Calls Tryz.prog 191 #[.int .i64 n] w fun e w' => e = .returned (.bool (inB n 2 1999)) ∧ w = w' := by
  go_enter Tryz.func191, Tryz.ntmps191
  go_wp2_with (go_at_call 121; refine (i_in _ _ _ _).mono ?_; rintro e w' ⟨rfl, rfl⟩)
  go_ret
  exact ⟨rfl, rfl⟩
theorem s_kind (n : Int) (w : World) : Calls Tryz.prog 241 #[.int .i64 n] w fun e w' => e = .returned (.bool (inB n 0 2)) ∧ w = w' := by
  go_enter Tryz.func241, Tryz.ntmps241
  go_wp2_with (go_at_call 119; refine (s_in _ _ _ _).mono ?_; rintro e w' ⟨rfl, rfl⟩)
  go_ret
  exact ⟨rfl, rfl⟩
theorem i_kind (n : Int) (w : World) : Calls Tryz.prog 193 #[.int .i64 n] w fun e w' => e = .returned (.bool (inB n 0 2)) ∧ w = w' := by
  go_enter Tryz.func193, Tryz.ntmps193
  go_wp2_with (go_at_call 121; refine (i_in _ _ _ _).mono ?_; rintro e w' ⟨rfl, rfl⟩)
  go_ret
  exact ⟨rfl, rfl⟩
theorem s_numeral (n : Int) (w : World) : Calls Tryz.prog 145 #[.int .i64 n] w fun e w' => e = .returned (.bool (inB n 1 3999)) ∧ w = w' := by
  go_enter Tryz.func145, Tryz.ntmps145
  go_wp2_with (go_at_call 119; refine (s_in _ _ _ _).mono ?_; rintro e w' ⟨rfl, rfl⟩)
  go_ret
  exact ⟨rfl, rfl⟩
theorem i_numeral (n : Int) (w : World) : Calls Tryz.prog 138 #[.int .i64 n] w fun e w' => e = .returned (.bool (inB n 1 3999)) ∧ w = w' := by
  go_enter Tryz.func138, Tryz.ntmps138
  go_wp2_with (go_at_call 121; refine (i_in _ _ _ _).mono ?_; rintro e w' ⟨rfl, rfl⟩)
  go_ret
  exact ⟨rfl, rfl⟩
theorem s_indiction (y : Int) (w : World) (h0 : 0 ≤ y) (h1 : y ≤ 100000) : Calls Tryz.prog 244 #[.int .i64 y] w fun e w' => e = .returned (.int .i64 ((y + 2) % 15 + 1)) ∧ w = w' := by
  go_enter Tryz.func244, Tryz.ntmps244
  go_wp2
  go_ret
  exact ⟨rfl, rfl⟩
theorem i_indiction (y : Int) (w : World) (h0 : 0 ≤ y) (h1 : y ≤ 100000) : Calls Tryz.prog 253 #[.int .i64 y] w fun e w' => e = .returned (.int .i64 ((y + 2) % 15 + 1)) ∧ w = w' := by
  go_enter Tryz.func253, Tryz.ntmps253
  go_wp2
  go_ret
  exact ⟨rfl, rfl⟩
theorem s_wday (y : Int) (w : World) (h0 : 0 ≤ y) (h1 : y ≤ 100000000) : Calls Tryz.prog 188 #[.int .i64 y] w fun e w' => e = .returned (.int .i64 ((y + 5) % 7)) ∧ w = w' := by
  go_enter Tryz.func188, Tryz.ntmps188
  go_wp2
  go_ret
  exact ⟨rfl, rfl⟩
theorem i_wday (y : Int) (w : World) (h0 : 0 ≤ y) (h1 : y ≤ 100000000) : Calls Tryz.prog 200 #[.int .i64 y] w fun e w' => e = .returned (.int .i64 ((y + 5) % 7)) ∧ w = w' := by
  go_enter Tryz.func200, Tryz.ntmps200
  go_wp2
  go_ret
  exact ⟨rfl, rfl⟩
theorem i_moon (y : Int) (w : World) (h0 : 0 ≤ y) (h1 : y ≤ 100000) : Calls Tryz.prog 323 #[.int .i64 y] w fun e w' => e = .returned (.int .i64 ((19 * (y % 19) + 15) % 30)) ∧ w = w' := by
  go_enter Tryz.func323, Tryz.ntmps323
  go_wp2
  go_ret
  exact ⟨rfl, rfl⟩
theorem i_nyear (y : Int) (w : World) (h0 : 1 ≤ y) (h1 : y ≤ 100000) : Calls Tryz.prog 248 #[.int .i64 y, .bool false] w fun e w' => e = .returned (.int .i64 (nyear y)) ∧ w = w' := by
  unfold nyear
  go_enter Tryz.func248, Tryz.ntmps248
  go_wp2
  go_ret
  exact ⟨rfl, rfl⟩
theorem s_leap (y : Int) (w : World) (h0 : 0 ≤ y) (h1 : y ≤ 100000) : Calls Tryz.prog 224 #[.int .i64 y, .bool false] w fun e w' => e = .returned (.bool (leapB y)) ∧ w = w' := by
  unfold leapB
  by_cases h : y % 4 = 0
  · have hb : (y % 4 == 0) = true := by simpa using h
    go_enter Tryz.func224, Tryz.ntmps224
    go_wp2
    go_ret
    exact ⟨by simp [h], rfl⟩
  · have hb : (y % 4 == 0) = false := by simpa using h
    go_enter Tryz.func224, Tryz.ntmps224
    go_wp2
    go_ret
    exact ⟨by simp [h], rfl⟩
theorem i_leap (y : Int) (w : World) (h0 : 0 ≤ y) (h1 : y ≤ 100000) : Calls Tryz.prog 289 #[.int .i64 y, .bool false] w fun e w' => e = .returned (.bool (leapB y)) ∧ w = w' := by
  unfold leapB
  by_cases h : y % 4 = 0
  · have hb : (y % 4 == 0) = true := by simpa using h
    go_enter Tryz.func289, Tryz.ntmps289
    go_wp2
    go_ret
    exact ⟨by simp [h], rfl⟩
  · have hb : (y % 4 == 0) = false := by simpa using h
    go_enter Tryz.func289, Tryz.ntmps289
    go_wp2
    go_ret
    exact ⟨by simp [h], rfl⟩
theorem s_mlen (y m : Int) (w : World) (h0 : 0 ≤ y) (h1 : y ≤ 100000) : Calls Tryz.prog 263 #[.int .i64 y, .int .i64 m, .bool false] w fun e w' => e = .returned (.int .i64 (mlen y m)) ∧ w = w' := by
  by_cases h2 : m = 2
  · subst h2
    by_cases h : y % 4 = 0
    · have hl : leapB y = true := by simp [leapB, h]
      have hm : mlen y 2 = 29 := by simp [mlen, lp, h]
      rw [hm]; clear hm
      go_enter Tryz.func263, Tryz.ntmps263
      go_wp2_with (go_at_call 224; refine (s_leap _ _ h0 h1).mono ?_; rintro e w' ⟨rfl, rfl⟩)
      go_ret
      exact ⟨rfl, rfl⟩
    · have hl : leapB y = false := by simp [leapB, h]
      have hm : mlen y 2 = 28 := by simp [mlen, lp, h]
      rw [hm]; clear hm
      go_enter Tryz.func263, Tryz.ntmps263
      go_wp2_with (go_at_call 224; refine (s_leap _ _ h0 h1).mono ?_; rintro e w' ⟨rfl, rfl⟩)
      go_ret
      exact ⟨rfl, rfl⟩
  · have b2 : (m == 2) = false := by simpa using h2
    by_cases h : m = 4 ∨ m = 6 ∨ m = 9 ∨ m = 11
    · have hm : mlen y m = 30 := by simp [mlen, h2, h]
      rw [hm]; clear hm b2
      rcases h with rfl | rfl | rfl | rfl <;> (go_enter Tryz.func263, Tryz.ntmps263; go_wp2; go_ret; exact ⟨rfl, rfl⟩)
    · have hm : mlen y m = 31 := by simp [mlen, h2, h]
      rw [hm]; clear hm
      have b4 : (m == 4) = false := by simp; omega
      have b6 : (m == 6) = false := by simp; omega
      have b9 : (m == 9) = false := by simp; omega
      have b11 : (m == 11) = false := by simp; omega
      clear h
      go_enter Tryz.func263, Tryz.ntmps263
      go_wp2
      go_ret
      exact ⟨rfl, rfl⟩
theorem i_mlen (y m : Int) (w : World) (h0 : 0 ≤ y) (h1 : y ≤ 100000) : Calls Tryz.prog 249 #[.int .i64 y, .int .i64 m, .bool false] w fun e w' => e = .returned (.int .i64 (mlen y m)) ∧ w = w' := by
  by_cases h2 : m = 2
  · subst h2
    by_cases h : y % 4 = 0
    · have hl : leapB y = true := by simp [leapB, h]
      have hm : mlen y 2 = 29 := by simp [mlen, lp, h]
      rw [hm]; clear hm
      go_enter Tryz.func249, Tryz.ntmps249
      go_wp2_with (go_at_call 289; refine (i_leap _ _ h0 h1).mono ?_; rintro e w' ⟨rfl, rfl⟩)
      go_ret
      exact ⟨rfl, rfl⟩
    · have hl : leapB y = false := by simp [leapB, h]
      have hm : mlen y 2 = 28 := by simp [mlen, lp, h]
      rw [hm]; clear hm
      go_enter Tryz.func249, Tryz.ntmps249
      go_wp2_with (go_at_call 289; refine (i_leap _ _ h0 h1).mono ?_; rintro e w' ⟨rfl, rfl⟩)
      go_ret
      exact ⟨rfl, rfl⟩
  · have b2 : (m == 2) = false := by simpa using h2
    by_cases h : m = 4 ∨ m = 6 ∨ m = 9 ∨ m = 11
    · have hm : mlen y m = 30 := by simp [mlen, h2, h]
      rw [hm]; clear hm b2
      rcases h with rfl | rfl | rfl | rfl <;> (go_enter Tryz.func249, Tryz.ntmps249; go_wp2; go_ret; exact ⟨rfl, rfl⟩)
    · have hm : mlen y m = 31 := by simp [mlen, h2, h]
      rw [hm]; clear hm
      have b4 : (m == 4) = false := by simp; omega
      have b6 : (m == 6) = false := by simp; omega
      have b9 : (m == 9) = false := by simp; omega
      have b11 : (m == 11) = false := by simp; omega
      clear h
      go_enter Tryz.func249, Tryz.ntmps249
      go_wp2
      go_ret
      exact ⟨rfl, rfl⟩
end Go.Proofs.YtelppggliieniaaGreatDoor
