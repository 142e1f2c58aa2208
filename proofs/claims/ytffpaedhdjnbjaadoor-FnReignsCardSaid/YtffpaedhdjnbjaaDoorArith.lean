/- The program's and the reference's functions of numbers: each returns what the plain function says. No condition but the bounds that stand in the theorems. -/
import Derived.Test.YtffpaedhdjnbjaaDoorRows
import Derived.Test.YtffpaedhdjnbjaaDoorMath
import Derived.WalkKit
import Derived.ProofKit
namespace Go.Proofs.YtffpaedhdjnbjaaDoor
open Go.RowKit
theorem s_in (n lo hi : Int) (w : World) : Calls Tryd.prog 84 #[.int .i64 n, .int .i64 lo, .int .i64 hi] w fun e w' => e = .returned (.bool (inB n lo hi)) ∧ w = w' := by
  unfold inB
  by_cases h1 : lo ≤ n <;> by_cases h2 : n ≤ hi <;> (go_enter Tryd.func84, Tryd.ntmps84; go_wp2; go_ret; exact ⟨by simp [h1, h2], rfl⟩)
theorem i_in (n lo hi : Int) (w : World) : Calls Tryd.prog 96 #[.int .i64 n, .int .i64 lo, .int .i64 hi] w fun e w' => e = .returned (.bool (inB n lo hi)) ∧ w = w' := by
  unfold inB
  by_cases h1 : lo ≤ n <;> by_cases h2 : n ≤ hi <;> (go_enter Tryd.func96, Tryd.ntmps96; go_wp2; go_ret; exact ⟨by simp [h1, h2], rfl⟩)
theorem s_day (n : Int) (w : World) : Calls Tryd.prog 64 #[.int .i64 n] w fun e w' => e = .returned (.bool (inB n 0 730499)) ∧ w = w' := by
  go_enter Tryd.func64, Tryd.ntmps64
  go_wp2_with (go_at_call 84; refine (s_in _ _ _ _).mono ?_; rintro e w' ⟨rfl, rfl⟩)
  go_ret
  exact ⟨rfl, rfl⟩
theorem i_day (n : Int) (w : World) : Calls Tryd.prog 61 #[.int .i64 n] w fun e w' => e = .returned (.bool (inB n 0 730499)) ∧ w = w' := by
  go_enter Tryd.func61, Tryd.ntmps61
  go_wp2_with (go_at_call 96; refine (i_in _ _ _ _).mono ?_; rintro e w' ⟨rfl, rfl⟩)
  go_ret
  exact ⟨rfl, rfl⟩
theorem i_year (n : Int) (w : World) : Calls Tryd.prog 123 #[.int .i64 n] w fun e w' => e = .returned (.bool (inB n 1 2000)) ∧ w = w' := by
  go_enter Tryd.func123, Tryd.ntmps123
  go_wp2_with (go_at_call 96; refine (i_in _ _ _ _).mono ?_; rintro e w' ⟨rfl, rfl⟩)
  go_ret
  exact ⟨rfl, rfl⟩
theorem s_style (n : Int) (w : World) : Calls Tryd.prog 63 #[.int .i64 n] w fun e w' => e = .returned (.bool (inB n 0 6)) ∧ w = w' := by
  go_enter Tryd.func63, Tryd.ntmps63
  go_wp2_with (go_at_call 84; refine (s_in _ _ _ _).mono ?_; rintro e w' ⟨rfl, rfl⟩)
  go_ret
  exact ⟨rfl, rfl⟩
theorem i_style (n : Int) (w : World) : Calls Tryd.prog 60 #[.int .i64 n] w fun e w' => e = .returned (.bool (inB n 0 6)) ∧ w = w' := by
  go_enter Tryd.func60, Tryd.ntmps60
  go_wp2_with (go_at_call 96; refine (i_in _ _ _ _).mono ?_; rintro e w' ⟨rfl, rfl⟩)
  go_ret
  exact ⟨rfl, rfl⟩
theorem s_styear (n : Int) (w : World) : Calls Tryd.prog 69 #[.int .i64 n] w fun e w' => e = .returned (.bool (inB n 2 1999)) ∧ w = w' := by
  go_enter Tryd.func69, Tryd.ntmps69
  go_wp2_with (go_at_call 84; refine (s_in _ _ _ _).mono ?_; rintro e w' ⟨rfl, rfl⟩)
  go_ret
  exact ⟨rfl, rfl⟩
theorem i_styear (n : Int) (w : World) : Calls Tryd.prog 68 #[.int .i64 n] w fun e w' => e = .returned (.bool (inB n 2 1999)) ∧ w = w' := by
  go_enter Tryd.func68, Tryd.ntmps68
  go_wp2_with (go_at_call 96; refine (i_in _ _ _ _).mono ?_; rintro e w' ⟨rfl, rfl⟩)
  go_ret
  exact ⟨rfl, rfl⟩
theorem s_kind (n : Int) (w : World) : Calls Tryd.prog 93 #[.int .i64 n] w fun e w' => e = .returned (.bool (inB n 0 2)) ∧ w = w' := by
  go_enter Tryd.func93, Tryd.ntmps93
  go_wp2_with (go_at_call 84; refine (s_in _ _ _ _).mono ?_; rintro e w' ⟨rfl, rfl⟩)
  go_ret
  exact ⟨rfl, rfl⟩
theorem i_kind (n : Int) (w : World) : Calls Tryd.prog 98 #[.int .i64 n] w fun e w' => e = .returned (.bool (inB n 0 2)) ∧ w = w' := by
  go_enter Tryd.func98, Tryd.ntmps98
  go_wp2_with (go_at_call 96; refine (i_in _ _ _ _).mono ?_; rintro e w' ⟨rfl, rfl⟩)
  go_ret
  exact ⟨rfl, rfl⟩
theorem i_moon (y : Int) (w : World) (h0 : 0 ≤ y) (h1 : y ≤ 100000) : Calls Tryd.prog 138 #[.int .i64 y] w fun e w' => e = .returned (.int .i64 ((19 * (y % 19) + 15) % 30)) ∧ w = w' := by
  go_enter Tryd.func138, Tryd.ntmps138
  go_wp2
  go_ret
  exact ⟨rfl, rfl⟩
theorem i_nyear (y : Int) (w : World) (h0 : 1 ≤ y) (h1 : y ≤ 100000) : Calls Tryd.prog 116 #[.int .i64 y, .bool false] w fun e w' => e = .returned (.int .i64 (nyear y)) ∧ w = w' := by
  unfold nyear
  go_enter Tryd.func116, Tryd.ntmps116
  go_wp2
  go_ret
  exact ⟨rfl, rfl⟩
theorem s_leap (y : Int) (w : World) (h0 : 0 ≤ y) (h1 : y ≤ 100000) : Calls Tryd.prog 122 #[.int .i64 y, .bool false] w fun e w' => e = .returned (.bool (leapB y)) ∧ w = w' := by
  unfold leapB
  by_cases h : y % 4 = 0
  · have hb : (y % 4 == 0) = true := by simpa using h
    go_enter Tryd.func122, Tryd.ntmps122
    go_wp2
    go_ret
    exact ⟨by simp [h], rfl⟩
  · have hb : (y % 4 == 0) = false := by simpa using h
    go_enter Tryd.func122, Tryd.ntmps122
    go_wp2
    go_ret
    exact ⟨by simp [h], rfl⟩
theorem i_leap (y : Int) (w : World) (h0 : 0 ≤ y) (h1 : y ≤ 100000) : Calls Tryd.prog 134 #[.int .i64 y, .bool false] w fun e w' => e = .returned (.bool (leapB y)) ∧ w = w' := by
  unfold leapB
  by_cases h : y % 4 = 0
  · have hb : (y % 4 == 0) = true := by simpa using h
    go_enter Tryd.func134, Tryd.ntmps134
    go_wp2
    go_ret
    exact ⟨by simp [h], rfl⟩
  · have hb : (y % 4 == 0) = false := by simpa using h
    go_enter Tryd.func134, Tryd.ntmps134
    go_wp2
    go_ret
    exact ⟨by simp [h], rfl⟩
theorem s_mlen (y m : Int) (w : World) (h0 : 0 ≤ y) (h1 : y ≤ 100000) : Calls Tryd.prog 125 #[.int .i64 y, .int .i64 m, .bool false] w fun e w' => e = .returned (.int .i64 (mlen y m)) ∧ w = w' := by
  by_cases h2 : m = 2
  · subst h2
    by_cases h : y % 4 = 0
    · have hl : leapB y = true := by simp [leapB, h]
      have hm : mlen y 2 = 29 := by simp [mlen, lp, h]
      rw [hm]; clear hm
      go_enter Tryd.func125, Tryd.ntmps125
      go_wp2_with (go_at_call 122; refine (s_leap _ _ h0 h1).mono ?_; rintro e w' ⟨rfl, rfl⟩)
      go_ret
      exact ⟨rfl, rfl⟩
    · have hl : leapB y = false := by simp [leapB, h]
      have hm : mlen y 2 = 28 := by simp [mlen, lp, h]
      rw [hm]; clear hm
      go_enter Tryd.func125, Tryd.ntmps125
      go_wp2_with (go_at_call 122; refine (s_leap _ _ h0 h1).mono ?_; rintro e w' ⟨rfl, rfl⟩)
      go_ret
      exact ⟨rfl, rfl⟩
  · have b2 : (m == 2) = false := by simpa using h2
    by_cases h : m = 4 ∨ m = 6 ∨ m = 9 ∨ m = 11
    · have hm : mlen y m = 30 := by simp [mlen, h2, h]
      rw [hm]; clear hm b2
      rcases h with rfl | rfl | rfl | rfl <;> (go_enter Tryd.func125, Tryd.ntmps125; go_wp2; go_ret; exact ⟨rfl, rfl⟩)
    · have hm : mlen y m = 31 := by simp [mlen, h2, h]
      rw [hm]; clear hm
      have b4 : (m == 4) = false := by simp; omega
      have b6 : (m == 6) = false := by simp; omega
      have b9 : (m == 9) = false := by simp; omega
      have b11 : (m == 11) = false := by simp; omega
      clear h
      go_enter Tryd.func125, Tryd.ntmps125
      go_wp2
      go_ret
      exact ⟨rfl, rfl⟩
theorem i_mlen (y m : Int) (w : World) (h0 : 0 ≤ y) (h1 : y ≤ 100000) : Calls Tryd.prog 117 #[.int .i64 y, .int .i64 m, .bool false] w fun e w' => e = .returned (.int .i64 (mlen y m)) ∧ w = w' := by
  by_cases h2 : m = 2
  · subst h2
    by_cases h : y % 4 = 0
    · have hl : leapB y = true := by simp [leapB, h]
      have hm : mlen y 2 = 29 := by simp [mlen, lp, h]
      rw [hm]; clear hm
      go_enter Tryd.func117, Tryd.ntmps117
      go_wp2_with (go_at_call 134; refine (i_leap _ _ h0 h1).mono ?_; rintro e w' ⟨rfl, rfl⟩)
      go_ret
      exact ⟨rfl, rfl⟩
    · have hl : leapB y = false := by simp [leapB, h]
      have hm : mlen y 2 = 28 := by simp [mlen, lp, h]
      rw [hm]; clear hm
      go_enter Tryd.func117, Tryd.ntmps117
      go_wp2_with (go_at_call 134; refine (i_leap _ _ h0 h1).mono ?_; rintro e w' ⟨rfl, rfl⟩)
      go_ret
      exact ⟨rfl, rfl⟩
  · have b2 : (m == 2) = false := by simpa using h2
    by_cases h : m = 4 ∨ m = 6 ∨ m = 9 ∨ m = 11
    · have hm : mlen y m = 30 := by simp [mlen, h2, h]
      rw [hm]; clear hm b2
      rcases h with rfl | rfl | rfl | rfl <;> (go_enter Tryd.func117, Tryd.ntmps117; go_wp2; go_ret; exact ⟨rfl, rfl⟩)
    · have hm : mlen y m = 31 := by simp [mlen, h2, h]
      rw [hm]; clear hm
      have b4 : (m == 4) = false := by simp; omega
      have b6 : (m == 6) = false := by simp; omega
      have b9 : (m == 9) = false := by simp; omega
      have b11 : (m == 11) = false := by simp; omega
      clear h
      go_enter Tryd.func117, Tryd.ntmps117
      go_wp2
      go_ret
      exact ⟨rfl, rfl⟩
end Go.Proofs.YtffpaedhdjnbjaaDoor
