/- The indiction of a day: the program's and the reference's functions return what the plain function says. Conditions: the bounds that stand in the theorems. -/
import Derived.Test.YtmpgokijlikddaaGreatDoorOld
import Derived.Test.YtmpgokijlikddaaGreatDoorDateOf
namespace Go.Proofs.YtmpgokijlikddaaGreatDoor
open Go.RowKit
def indY (y : Int) : Int := (y + 2) % 15 + 1
def indOn (k n : Int) : Int := if k ≠ 2 ∧ num (yr n) 9 (if k = 1 then 24 else 1) ≤ n then indY (yr n + 1) else indY (yr n)
theorem num9_bd (y d : Int) (h0 : 1 ≤ y) (h1 : y ≤ 2000) (d0 : 1 ≤ d) (d1 : d ≤ 30) : 0 ≤ num y 9 d ∧ num y 9 d ≤ 1000000 := by
  have := lp_01 y
  have h : cum y 9 = lp y + 243 := by simp [cum]
  unfold num nyear; omega
theorem s_on0T (n : Int) (w : World) (h0 : 0 ≤ n) (h1 : n ≤ 730499) (hB : decide (num (yr n) 9 1 ≤ n) = true) : Calls Tryz.prog 156 #[.int .i64 0, .int .i64 n] w fun e w' => e = .returned (.int .i64 (indY (yr n + 1))) ∧ Below w.heap.size w w' := by
  obtain ⟨y0, y1⟩ := yr_bd n h0 h1
  obtain ⟨u0, u1⟩ := num9_bd (yr n) 1 y0 y1 (by omega) (by omega)
  have fd := fieldD0
  go_enter Tryz.func156, Tryz.ntmps156
  go_wp2_with fail
  refine (s_l01Old _ _ h0 h1).mono ?_
  rintro e w1 ⟨rfl, hb⟩
  go_wp2_with fail
  refine (s_num _ _ _ _ y0 (by omega) (by omega) (by omega) (by omega) (by omega)).mono ?_
  rintro e w2 ⟨rfl, hb2⟩
  go_wp2_with fail
  refine (s_indiction _ _ (by omega) (by omega)).mono ?_
  rintro e w3 ⟨rfl, rfl⟩
  go_wp2_with fail
  go_ret
  exact ⟨rfl, below_step hb (below_step (below_alloc _ _) hb2)⟩
theorem s_on0F (n : Int) (w : World) (h0 : 0 ≤ n) (h1 : n ≤ 730499) (hB : decide (num (yr n) 9 1 ≤ n) = false) : Calls Tryz.prog 156 #[.int .i64 0, .int .i64 n] w fun e w' => e = .returned (.int .i64 (indY (yr n))) ∧ Below w.heap.size w w' := by
  obtain ⟨y0, y1⟩ := yr_bd n h0 h1
  obtain ⟨u0, u1⟩ := num9_bd (yr n) 1 y0 y1 (by omega) (by omega)
  have fd := fieldD0
  go_enter Tryz.func156, Tryz.ntmps156
  go_wp2_with fail
  refine (s_l01Old _ _ h0 h1).mono ?_
  rintro e w1 ⟨rfl, hb⟩
  go_wp2_with fail
  refine (s_num _ _ _ _ y0 (by omega) (by omega) (by omega) (by omega) (by omega)).mono ?_
  rintro e w2 ⟨rfl, hb2⟩
  go_wp2_with fail
  refine (s_indiction _ _ (by omega) (by omega)).mono ?_
  rintro e w3 ⟨rfl, rfl⟩
  go_wp2_with fail
  go_ret
  exact ⟨rfl, below_step hb (below_step (below_alloc _ _) hb2)⟩
theorem s_on1T (n : Int) (w : World) (h0 : 0 ≤ n) (h1 : n ≤ 730499) (hB : decide (num (yr n) 9 24 ≤ n) = true) : Calls Tryz.prog 156 #[.int .i64 1, .int .i64 n] w fun e w' => e = .returned (.int .i64 (indY (yr n + 1))) ∧ Below w.heap.size w w' := by
  obtain ⟨y0, y1⟩ := yr_bd n h0 h1
  obtain ⟨u0, u1⟩ := num9_bd (yr n) 24 y0 y1 (by omega) (by omega)
  have fd := fieldD0
  go_enter Tryz.func156, Tryz.ntmps156
  go_wp2_with fail
  refine (s_l01Old _ _ h0 h1).mono ?_
  rintro e w1 ⟨rfl, hb⟩
  go_wp2_with fail
  refine (s_num _ _ _ _ y0 (by omega) (by omega) (by omega) (by omega) (by omega)).mono ?_
  rintro e w2 ⟨rfl, hb2⟩
  go_wp2_with fail
  refine (s_indiction _ _ (by omega) (by omega)).mono ?_
  rintro e w3 ⟨rfl, rfl⟩
  go_wp2_with fail
  go_ret
  exact ⟨rfl, below_step hb (below_step (below_alloc _ _) hb2)⟩
theorem s_on1F (n : Int) (w : World) (h0 : 0 ≤ n) (h1 : n ≤ 730499) (hB : decide (num (yr n) 9 24 ≤ n) = false) : Calls Tryz.prog 156 #[.int .i64 1, .int .i64 n] w fun e w' => e = .returned (.int .i64 (indY (yr n))) ∧ Below w.heap.size w w' := by
  obtain ⟨y0, y1⟩ := yr_bd n h0 h1
  obtain ⟨u0, u1⟩ := num9_bd (yr n) 24 y0 y1 (by omega) (by omega)
  have fd := fieldD0
  go_enter Tryz.func156, Tryz.ntmps156
  go_wp2_with fail
  refine (s_l01Old _ _ h0 h1).mono ?_
  rintro e w1 ⟨rfl, hb⟩
  go_wp2_with fail
  refine (s_num _ _ _ _ y0 (by omega) (by omega) (by omega) (by omega) (by omega)).mono ?_
  rintro e w2 ⟨rfl, hb2⟩
  go_wp2_with fail
  refine (s_indiction _ _ (by omega) (by omega)).mono ?_
  rintro e w3 ⟨rfl, rfl⟩
  go_wp2_with fail
  go_ret
  exact ⟨rfl, below_step hb (below_step (below_alloc _ _) hb2)⟩
theorem s_on2 (n : Int) (w : World) (h0 : 0 ≤ n) (h1 : n ≤ 730499) : Calls Tryz.prog 156 #[.int .i64 2, .int .i64 n] w fun e w' => e = .returned (.int .i64 (indY (yr n))) ∧ Below w.heap.size w w' := by
  obtain ⟨y0, y1⟩ := yr_bd n h0 h1
  have fd := fieldD0
  go_enter Tryz.func156, Tryz.ntmps156
  go_wp2_with fail
  refine (s_l01Old _ _ h0 h1).mono ?_
  rintro e w1 ⟨rfl, hb⟩
  go_wp2_with fail
  refine (s_indiction _ _ (by omega) (by omega)).mono ?_
  rintro e w3 ⟨rfl, rfl⟩
  go_wp2_with fail
  go_ret
  exact ⟨rfl, below_step hb (below_alloc _ _)⟩
theorem i_on0T (n : Int) (w : World) (h0 : 0 ≤ n) (h1 : n ≤ 730499) (hB : decide (num (yr n) 9 1 ≤ n) = true) : Calls Tryz.prog 168 #[.int .i64 0, .int .i64 n] w fun e w' => e = .returned (.int .i64 (indY (yr n + 1))) ∧ Below w.heap.size w w' := by
  obtain ⟨y0, y1⟩ := yr_bd n h0 h1
  obtain ⟨u0, u1⟩ := num9_bd (yr n) 1 y0 y1 (by omega) (by omega)
  go_enter Tryz.func168, Tryz.ntmps168
  go_wp2_with fail
  refine (i_dateOf _ _ h0 h1).mono ?_
  rintro e w1 ⟨rfl, hb⟩
  go_wp2_with fail
  refine (i_num _ _ _ _ y0 (by omega) (by omega) (by omega) (by omega) (by omega)).mono ?_
  rintro e w2 ⟨rfl, hb2⟩
  obtain ⟨hc2, hf2⟩ := bcell hb2
  go_wp2_with fail
  refine (i_indiction _ _ (by omega) (by omega)).mono ?_
  rintro e w3 ⟨rfl, rfl⟩
  go_wp2_with fail
  go_ret
  exact ⟨rfl, below_step hb (below_step (below_more (below_alloc _ _) (by simp) _) hb2)⟩
theorem i_on0F (n : Int) (w : World) (h0 : 0 ≤ n) (h1 : n ≤ 730499) (hB : decide (num (yr n) 9 1 ≤ n) = false) : Calls Tryz.prog 168 #[.int .i64 0, .int .i64 n] w fun e w' => e = .returned (.int .i64 (indY (yr n))) ∧ Below w.heap.size w w' := by
  obtain ⟨y0, y1⟩ := yr_bd n h0 h1
  obtain ⟨u0, u1⟩ := num9_bd (yr n) 1 y0 y1 (by omega) (by omega)
  go_enter Tryz.func168, Tryz.ntmps168
  go_wp2_with fail
  refine (i_dateOf _ _ h0 h1).mono ?_
  rintro e w1 ⟨rfl, hb⟩
  go_wp2_with fail
  refine (i_num _ _ _ _ y0 (by omega) (by omega) (by omega) (by omega) (by omega)).mono ?_
  rintro e w2 ⟨rfl, hb2⟩
  obtain ⟨hc2, hf2⟩ := bcell hb2
  go_wp2_with fail
  refine (i_indiction _ _ (by omega) (by omega)).mono ?_
  rintro e w3 ⟨rfl, rfl⟩
  go_wp2_with fail
  go_ret
  exact ⟨rfl, below_step hb (below_step (below_more (below_alloc _ _) (by simp) _) hb2)⟩
theorem i_on1T (n : Int) (w : World) (h0 : 0 ≤ n) (h1 : n ≤ 730499) (hB : decide (num (yr n) 9 24 ≤ n) = true) : Calls Tryz.prog 168 #[.int .i64 1, .int .i64 n] w fun e w' => e = .returned (.int .i64 (indY (yr n + 1))) ∧ Below w.heap.size w w' := by
  obtain ⟨y0, y1⟩ := yr_bd n h0 h1
  obtain ⟨u0, u1⟩ := num9_bd (yr n) 24 y0 y1 (by omega) (by omega)
  go_enter Tryz.func168, Tryz.ntmps168
  go_wp2_with fail
  refine (i_dateOf _ _ h0 h1).mono ?_
  rintro e w1 ⟨rfl, hb⟩
  go_wp2_with fail
  refine (i_num _ _ _ _ y0 (by omega) (by omega) (by omega) (by omega) (by omega)).mono ?_
  rintro e w2 ⟨rfl, hb2⟩
  obtain ⟨hc2, hf2⟩ := bcell hb2
  go_wp2_with fail
  refine (i_indiction _ _ (by omega) (by omega)).mono ?_
  rintro e w3 ⟨rfl, rfl⟩
  go_wp2_with fail
  go_ret
  exact ⟨rfl, below_step hb (below_step (below_more (below_alloc _ _) (by simp) _) hb2)⟩
theorem i_on1F (n : Int) (w : World) (h0 : 0 ≤ n) (h1 : n ≤ 730499) (hB : decide (num (yr n) 9 24 ≤ n) = false) : Calls Tryz.prog 168 #[.int .i64 1, .int .i64 n] w fun e w' => e = .returned (.int .i64 (indY (yr n))) ∧ Below w.heap.size w w' := by
  obtain ⟨y0, y1⟩ := yr_bd n h0 h1
  obtain ⟨u0, u1⟩ := num9_bd (yr n) 24 y0 y1 (by omega) (by omega)
  go_enter Tryz.func168, Tryz.ntmps168
  go_wp2_with fail
  refine (i_dateOf _ _ h0 h1).mono ?_
  rintro e w1 ⟨rfl, hb⟩
  go_wp2_with fail
  refine (i_num _ _ _ _ y0 (by omega) (by omega) (by omega) (by omega) (by omega)).mono ?_
  rintro e w2 ⟨rfl, hb2⟩
  obtain ⟨hc2, hf2⟩ := bcell hb2
  go_wp2_with fail
  refine (i_indiction _ _ (by omega) (by omega)).mono ?_
  rintro e w3 ⟨rfl, rfl⟩
  go_wp2_with fail
  go_ret
  exact ⟨rfl, below_step hb (below_step (below_more (below_alloc _ _) (by simp) _) hb2)⟩
theorem i_on2 (n : Int) (w : World) (h0 : 0 ≤ n) (h1 : n ≤ 730499) : Calls Tryz.prog 168 #[.int .i64 2, .int .i64 n] w fun e w' => e = .returned (.int .i64 (indY (yr n))) ∧ Below w.heap.size w w' := by
  obtain ⟨y0, y1⟩ := yr_bd n h0 h1
  go_enter Tryz.func168, Tryz.ntmps168
  go_wp2_with fail
  refine (i_dateOf _ _ h0 h1).mono ?_
  rintro e w1 ⟨rfl, hb⟩
  go_wp2_with fail
  refine (i_indiction _ _ (by omega) (by omega)).mono ?_
  rintro e w3 ⟨rfl, rfl⟩
  go_wp2_with fail
  go_ret
  exact ⟨rfl, below_step hb (below_more (below_alloc _ _) (by simp) _)⟩
theorem s_on (k n : Int) (w : World) (hk : inB k 0 2 = true) (h0 : 0 ≤ n) (h1 : n ≤ 730499) : Calls Tryz.prog 156 #[.int .i64 k, .int .i64 n] w fun e w' => e = .returned (.int .i64 (indOn k n)) ∧ Below w.heap.size w w' := by
  have hk' := inB_iff.1 hk
  have h : k = 0 ∨ k = 1 ∨ k = 2 := by omega
  rcases h with rfl | rfl | rfl
  · by_cases h : num (yr n) 9 1 ≤ n
    · have e : indOn 0 n = indY (yr n + 1) := by simp [indOn, h]
      rw [e]; exact s_on0T n w h0 h1 (by simpa using h)
    · have e : indOn 0 n = indY (yr n) := by simp [indOn, h]
      rw [e]; exact s_on0F n w h0 h1 (by simpa using h)
  · by_cases h : num (yr n) 9 24 ≤ n
    · have e : indOn 1 n = indY (yr n + 1) := by simp [indOn, h]
      rw [e]; exact s_on1T n w h0 h1 (by simpa using h)
    · have e : indOn 1 n = indY (yr n) := by simp [indOn, h]
      rw [e]; exact s_on1F n w h0 h1 (by simpa using h)
  · have e : indOn 2 n = indY (yr n) := by simp [indOn]
    rw [e]; exact s_on2 n w h0 h1
theorem i_on (k n : Int) (w : World) (hk : inB k 0 2 = true) (h0 : 0 ≤ n) (h1 : n ≤ 730499) : Calls Tryz.prog 168 #[.int .i64 k, .int .i64 n] w fun e w' => e = .returned (.int .i64 (indOn k n)) ∧ Below w.heap.size w w' := by
  have hk' := inB_iff.1 hk
  have h : k = 0 ∨ k = 1 ∨ k = 2 := by omega
  rcases h with rfl | rfl | rfl
  · by_cases h : num (yr n) 9 1 ≤ n
    · have e : indOn 0 n = indY (yr n + 1) := by simp [indOn, h]
      rw [e]; exact i_on0T n w h0 h1 (by simpa using h)
    · have e : indOn 0 n = indY (yr n) := by simp [indOn, h]
      rw [e]; exact i_on0F n w h0 h1 (by simpa using h)
  · by_cases h : num (yr n) 9 24 ≤ n
    · have e : indOn 1 n = indY (yr n + 1) := by simp [indOn, h]
      rw [e]; exact i_on1T n w h0 h1 (by simpa using h)
    · have e : indOn 1 n = indY (yr n) := by simp [indOn, h]
      rw [e]; exact i_on1F n w h0 h1 (by simpa using h)
  · have e : indOn 2 n = indY (yr n) := by simp [indOn]
    rw [e]; exact i_on2 n w h0 h1
def indOnF (k n : Int) : Int × Int := if inB k 0 2 && inB n 0 730499 then (indOn k n, 0) else (0, 2)
end Go.Proofs.YtmpgokijlikddaaGreatDoor
