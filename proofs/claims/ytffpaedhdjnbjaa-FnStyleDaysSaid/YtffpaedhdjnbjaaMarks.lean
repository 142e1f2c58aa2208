/- The marks of years (indiction, epact, concurrent): the program's and the reference's functions return what the plain functions say. No condition. -/
import Derived.Test.YtffpaedhdjnbjaaNum
namespace Go.Proofs.Ytffpaedhdjnbjaa
open Go.RowKit
def indF (y : Int) : Int × Int := if inB y 1 2000 then ((y + 2) % 15 + 1, 0) else (0, 2)
def epF (y : Int) : Int × Int := if inB y 1 2000 then (11 * (y % 19) % 30, 0) else (0, 2)
def conc (y : Int) : Int := (num y 3 24 + 5 + 1) % 7 + 1
def concF (y : Int) : Int × Int := if inB y 1 2000 then (conc y, 0) else (0, 2)
theorem num324 (y : Int) (h0 : 1 ≤ y) (h1 : y ≤ 2000) : 0 ≤ num y 3 24 ∧ num y 3 24 ≤ 1000000 := by
  have := lp_01 y
  have h : cum y 3 = lp y + 59 := by simp [cum]
  unfold num nyear; omega
theorem s_IndictionOf (y : Int) (w : World) : Calls Try.prog 42 #[.int .i64 y] w fun e w' => e = .returned (.tuple #[.int .i64 (indF y).1, .int .i64 (indF y).2]) ∧ w = w' := by
  by_cases h : inB y 1 2000 = true
  · have hf : indF y = ((y + 2) % 15 + 1, 0) := by simp [indF, h]
    rw [hf]; clear hf
    obtain ⟨h0, h1⟩ := inB_iff.1 h
    go_enter Try.func42, Try.ntmps42
    go_wp2_with (first | (go_at_call 63; refine (toB (s_year _ _) h).mono ?_; rintro e w' ⟨rfl, rfl⟩) | (go_at_call 64; refine (s_indiction _ _ (by omega) (by omega)).mono ?_; rintro e w' ⟨rfl, rfl⟩))
    go_ret2
    exact ⟨rfl, rfl⟩
  · have h' : inB y 1 2000 = false := by simpa using h
    have hf : indF y = (0, 2) := by simp [indF, h]
    rw [hf]; clear hf h
    go_enter Try.func42, Try.ntmps42
    go_wp2_with (go_at_call 63; refine (toB (s_year _ _) h').mono ?_; rintro e w' ⟨rfl, rfl⟩)
    go_ret2
    exact ⟨rfl, rfl⟩
theorem i_IndictionOf (y : Int) (w : World) : Calls Try.prog 41 #[.int .i64 y] w fun e w' => e = .returned (.tuple #[.int .i64 (indF y).1, .int .i64 (indF y).2]) ∧ w = w' := by
  by_cases h : inB y 1 2000 = true
  · have hf : indF y = ((y + 2) % 15 + 1, 0) := by simp [indF, h]
    rw [hf]; clear hf
    obtain ⟨h0, h1⟩ := inB_iff.1 h
    go_enter Try.func41, Try.ntmps41
    go_wp2_with (first | (go_at_call 61; refine (toB (i_year _ _) h).mono ?_; rintro e w' ⟨rfl, rfl⟩) | (go_at_call 89; refine (i_indiction _ _ (by omega) (by omega)).mono ?_; rintro e w' ⟨rfl, rfl⟩))
    go_ret2
    exact ⟨rfl, rfl⟩
  · have h' : inB y 1 2000 = false := by simpa using h
    have hf : indF y = (0, 2) := by simp [indF, h]
    rw [hf]; clear hf h
    go_enter Try.func41, Try.ntmps41
    go_wp2_with (go_at_call 61; refine (toB (i_year _ _) h').mono ?_; rintro e w' ⟨rfl, rfl⟩)
    go_ret2
    exact ⟨rfl, rfl⟩
theorem s_EpactOf (y : Int) (w : World) : Calls Try.prog 17 #[.int .i64 y] w fun e w' => e = .returned (.tuple #[.int .i64 (epF y).1, .int .i64 (epF y).2]) ∧ w = w' := by
  by_cases h : inB y 1 2000 = true
  · have hf : epF y = (11 * (y % 19) % 30, 0) := by simp [epF, h]
    rw [hf]; clear hf
    obtain ⟨h0, h1⟩ := inB_iff.1 h
    go_enter Try.func17, Try.ntmps17
    go_wp2_with (first | (go_at_call 63; refine (toB (s_year _ _) h).mono ?_; rintro e w' ⟨rfl, rfl⟩) | (go_at_call 65; refine (s_epact _ _ (by omega) (by omega)).mono ?_; rintro e w' ⟨rfl, rfl⟩))
    go_ret2
    exact ⟨rfl, rfl⟩
  · have h' : inB y 1 2000 = false := by simpa using h
    have hf : epF y = (0, 2) := by simp [epF, h]
    rw [hf]; clear hf h
    go_enter Try.func17, Try.ntmps17
    go_wp2_with (go_at_call 63; refine (toB (s_year _ _) h').mono ?_; rintro e w' ⟨rfl, rfl⟩)
    go_ret2
    exact ⟨rfl, rfl⟩
theorem fieldM0 (x y z : Value) (w : World) : (Instr.field 32 (.agg #[x, y, z]) 0).run Try.prog w = .ok x w := by kernel_rfl
theorem fieldM1 (x y z : Value) (w : World) : (Instr.field 32 (.agg #[x, y, z]) 1).run Try.prog w = .ok y w := by kernel_rfl
theorem fieldM2 (x y z : Value) (w : World) : (Instr.field 32 (.agg #[x, y, z]) 2).run Try.prog w = .ok z w := by kernel_rfl
theorem i_markOf (y : Int) (w : World) (h0 : 1 ≤ y) (h1 : y ≤ 2000) : Calls Try.prog 62 #[.int .i64 y] w fun e w' => e = .returned (.agg #[.int .i64 ((y + 2) % 15 + 1), .int .i64 (11 * (y % 19) % 30), .int .i64 (conc y)]) ∧ Below w.heap.size w w' := by
  obtain ⟨n0, n1⟩ := num324 y h0 h1
  go_enter Try.func62, Try.ntmps62
  go_wp2_with fail
  refine (i_num _ _ _ _ h0 (by omega) (by omega) (by omega) (by omega) (by omega)).mono ?_
  rintro e w1 ⟨rfl, hb⟩
  obtain ⟨hc, hf⟩ := bcell hb
  have hz : w.heap.size < w1.heap.size := by have := hb.size; simp at this; omega
  go_wp2_with (first | (go_at_call 89; refine (i_indiction _ _ (by omega) (by omega)).mono ?_; rintro e w' ⟨rfl, rfl⟩) | (go_at_call 95; refine (i_wday _ _ (by omega) (by omega)).mono ?_; rintro e w' ⟨rfl, rfl⟩))
  refine bodyPost_ret (v := .agg #[.int .i64 ((y + 2) % 15 + 1), .int .i64 (11 * (y % 19) % 30), .int .i64 ((num y 3 24 + 5 + 1) % 7 + 1)]) (by simp [results, Try.results62, go_sem, hc]) rfl ⟨rfl, ?_⟩
  exact below_set (below_set (below_set (below_step (below_alloc _ _) hb) _ _) _ _) _ _
theorem s_conc (y : Int) (w : World) (h0 : 1 ≤ y) (h1 : y ≤ 2000) : Calls Try.prog 66 #[.int .i64 y] w fun e w' => e = .returned (.int .i64 (conc y)) ∧ Below w.heap.size w w' := by
  obtain ⟨n0, n1⟩ := num324 y h0 h1
  go_enter Try.func66, Try.ntmps66
  go_wp2_with fail
  refine (s_num _ _ _ _ h0 (by omega) (by omega) (by omega) (by omega) (by omega)).mono ?_
  rintro e w1 ⟨rfl, hb⟩
  go_wp2_with (go_at_call 96; refine (s_wday _ _ (by omega) (by omega)).mono ?_; rintro e w' ⟨rfl, rfl⟩)
  go_ret
  exact ⟨rfl, hb⟩
theorem i_EpactOf (y : Int) (w : World) : Calls Try.prog 16 #[.int .i64 y] w fun e w' => e = .returned (.tuple #[.int .i64 (epF y).1, .int .i64 (epF y).2]) ∧ Below w.heap.size w w' := by
  by_cases h : inB y 1 2000 = true
  · have hf : epF y = (11 * (y % 19) % 30, 0) := by simp [epF, h]
    rw [hf]; clear hf
    obtain ⟨h0, h1⟩ := inB_iff.1 h
    go_enter Try.func16, Try.ntmps16
    go_wp2_with (go_at_call 61; refine (toB (i_year _ _) h).mono ?_; rintro e w' ⟨rfl, rfl⟩)
    refine (i_markOf _ _ h0 h1).mono ?_
    rintro e w1 ⟨rfl, hb⟩
    have fm1 := fieldM1
    have fm2 := fieldM2
    go_wp2
    go_ret2
    exact ⟨rfl, hb⟩
  · have h' : inB y 1 2000 = false := by simpa using h
    have hf : epF y = (0, 2) := by simp [epF, h]
    rw [hf]; clear hf h
    go_enter Try.func16, Try.ntmps16
    go_wp2_with (go_at_call 61; refine (toB (i_year _ _) h').mono ?_; rintro e w' ⟨rfl, rfl⟩)
    go_ret2
    exact ⟨rfl, Below.refl _ _⟩
theorem i_ConcurrentOf (y : Int) (w : World) : Calls Try.prog 18 #[.int .i64 y] w fun e w' => e = .returned (.tuple #[.int .i64 (concF y).1, .int .i64 (concF y).2]) ∧ Below w.heap.size w w' := by
  by_cases h : inB y 1 2000 = true
  · have hf : concF y = (conc y, 0) := by simp [concF, h]
    rw [hf]; clear hf
    obtain ⟨h0, h1⟩ := inB_iff.1 h
    go_enter Try.func18, Try.ntmps18
    go_wp2_with (go_at_call 61; refine (toB (i_year _ _) h).mono ?_; rintro e w' ⟨rfl, rfl⟩)
    refine (i_markOf _ _ h0 h1).mono ?_
    rintro e w1 ⟨rfl, hb⟩
    have fm1 := fieldM1
    have fm2 := fieldM2
    go_wp2
    go_ret2
    exact ⟨rfl, hb⟩
  · have h' : inB y 1 2000 = false := by simpa using h
    have hf : concF y = (0, 2) := by simp [concF, h]
    rw [hf]; clear hf h
    go_enter Try.func18, Try.ntmps18
    go_wp2_with (go_at_call 61; refine (toB (i_year _ _) h').mono ?_; rintro e w' ⟨rfl, rfl⟩)
    go_ret2
    exact ⟨rfl, Below.refl _ _⟩
theorem s_ConcurrentOf (y : Int) (w : World) : Calls Try.prog 19 #[.int .i64 y] w fun e w' => e = .returned (.tuple #[.int .i64 (concF y).1, .int .i64 (concF y).2]) ∧ Below w.heap.size w w' := by
  by_cases h : inB y 1 2000 = true
  · have hf : concF y = (conc y, 0) := by simp [concF, h]
    rw [hf]; clear hf
    obtain ⟨h0, h1⟩ := inB_iff.1 h
    go_enter Try.func19, Try.ntmps19
    go_wp2_with (go_at_call 63; refine (toB (s_year _ _) h).mono ?_; rintro e w' ⟨rfl, rfl⟩)
    refine (s_conc _ _ h0 h1).mono ?_
    rintro e w1 ⟨rfl, hb⟩
    go_wp2
    go_ret2
    exact ⟨rfl, hb⟩
  · have h' : inB y 1 2000 = false := by simpa using h
    have hf : concF y = (0, 2) := by simp [concF, h]
    rw [hf]; clear hf h
    go_enter Try.func19, Try.ntmps19
    go_wp2_with (go_at_call 63; refine (toB (s_year _ _) h').mono ?_; rintro e w' ⟨rfl, rfl⟩)
    go_ret2
    exact ⟨rfl, Below.refl _ _⟩
def markF (y : Int) : (Int × Int × Int) × Int := if inB y 1 2000 then (((y + 2) % 15 + 1, 11 * (y % 19) % 30, conc y), 0) else ((0, 0, 0), 2)
theorem i_MarkOf (y : Int) (w : World) : Calls Try.prog 14 #[.int .i64 y] w fun e w' => e = .returned (.tuple #[.agg #[.int .i64 (markF y).1.1, .int .i64 (markF y).1.2.1, .int .i64 (markF y).1.2.2], .int .i64 (markF y).2]) ∧ Below w.heap.size w w' := by
  by_cases h : inB y 1 2000 = true
  · have hf : markF y = (((y + 2) % 15 + 1, 11 * (y % 19) % 30, conc y), 0) := by simp [markF, h]
    rw [hf]; clear hf
    obtain ⟨h0, h1⟩ := inB_iff.1 h
    go_enter Try.func14, Try.ntmps14
    go_wp2_with (go_at_call 61; refine (toB (i_year _ _) h).mono ?_; rintro e w' ⟨rfl, rfl⟩)
    refine (i_markOf _ _ h0 h1).mono ?_
    rintro e w1 ⟨rfl, hb⟩
    obtain ⟨hc, hf⟩ := bcell hb
    go_wp2
    refine bodyPost_ret (v := .tuple #[.agg #[.int .i64 ((y + 2) % 15 + 1), .int .i64 (11 * (y % 19) % 30), .int .i64 (conc y)], .int .i64 0]) (by simp [results, Try.results14, go_sem, hc]) rfl ⟨rfl, ?_⟩
    exact below_set (below_set (below_set (below_step (below_alloc _ _) hb) _ _) _ _) _ _
  · have h' : inB y 1 2000 = false := by simpa using h
    have hf : markF y = ((0, 0, 0), 2) := by simp [markF, h]
    rw [hf]; clear hf h
    go_enter Try.func14, Try.ntmps14
    go_wp2_with (go_at_call 61; refine (toB (i_year _ _) h').mono ?_; rintro e w' ⟨rfl, rfl⟩)
    refine bodyPost_ret (v := .tuple #[.agg #[.int .i64 0, .int .i64 0, .int .i64 0], .int .i64 2]) (by simp [results, Try.results14, go_sem]) rfl ⟨rfl, ?_⟩
    exact below_alloc _ _
theorem s_MarkOf (y : Int) (w : World) : Calls Try.prog 15 #[.int .i64 y] w fun e w' => e = .returned (.tuple #[.agg #[.int .i64 (markF y).1.1, .int .i64 (markF y).1.2.1, .int .i64 (markF y).1.2.2], .int .i64 (markF y).2]) ∧ Below w.heap.size w w' := by
  by_cases h : inB y 1 2000 = true
  · have hf : markF y = (((y + 2) % 15 + 1, 11 * (y % 19) % 30, conc y), 0) := by simp [markF, h]
    rw [hf]; clear hf
    obtain ⟨h0, h1⟩ := inB_iff.1 h
    go_enter Try.func15, Try.ntmps15
    go_wp2_with (first | (go_at_call 63; refine (toB (s_year _ _) h).mono ?_; rintro e w' ⟨rfl, rfl⟩) | (go_at_call 64; refine (s_indiction _ _ (by omega) (by omega)).mono ?_; rintro e w' ⟨rfl, rfl⟩) | (go_at_call 65; refine (s_epact _ _ (by omega) (by omega)).mono ?_; rintro e w' ⟨rfl, rfl⟩))
    refine (s_conc _ _ h0 h1).mono ?_
    rintro e w1 ⟨rfl, hb⟩
    obtain ⟨hc, hf⟩ := bcell hb
    go_wp2
    refine bodyPost_ret (v := .tuple #[.agg #[.int .i64 ((y + 2) % 15 + 1), .int .i64 (11 * (y % 19) % 30), .int .i64 (conc y)], .int .i64 0]) (by simp [results, Try.results15, go_sem, hc]) rfl ⟨rfl, ?_⟩
    exact below_set (below_set (below_set (below_step (below_alloc _ _) hb) _ _) _ _) _ _
  · have h' : inB y 1 2000 = false := by simpa using h
    have hf : markF y = ((0, 0, 0), 2) := by simp [markF, h]
    rw [hf]; clear hf h
    go_enter Try.func15, Try.ntmps15
    go_wp2_with (go_at_call 63; refine (toB (s_year _ _) h').mono ?_; rintro e w' ⟨rfl, rfl⟩)
    refine bodyPost_ret (v := .tuple #[.agg #[.int .i64 0, .int .i64 0, .int .i64 0], .int .i64 2]) (by simp [results, Try.results15, go_sem]) rfl ⟨rfl, ?_⟩
    exact below_alloc _ _
def isMarkB (i e c : Int) : Bool := decide ((0 ≤ i ∧ i ≤ 15) ∧ (-1 ≤ e ∧ e ≤ 29) ∧ (0 ≤ c ∧ c ≤ 7))
theorem isMarkB_iff {i e c : Int} : isMarkB i e c = true ↔ inB i 0 15 = true ∧ inB e (-1) 29 = true ∧ inB c 0 7 = true := by unfold isMarkB inB; simp
theorem i_IsYearMark (i e c : Int) (w : World) : Calls Try.prog 24 #[.agg #[.int .i64 i, .int .i64 e, .int .i64 c]] w fun r w' => r = .returned (.bool (isMarkB i e c)) ∧ Below w.heap.size w w' := by
  by_cases hi : inB i 0 15 = true
  · by_cases he : inB e (-1) 29 = true
    · have hv : isMarkB i e c = inB c 0 7 := by rw [Bool.eq_iff_iff, isMarkB_iff]; simp [hi, he]
      rw [hv]; clear hv
      obtain ⟨bd, hbd⟩ : ∃ b, inB c 0 7 = b := ⟨_, rfl⟩
      rw [hbd]
      go_enter Try.func24, Try.ntmps24
      go_wp2_with (go_at_call 52; refine (toB (i_in _ _ _ _) (by assumption)).mono ?_; rintro e w' ⟨rfl, rfl⟩)
      go_ret
      exact ⟨rfl, below_alloc _ _⟩
    · have he' : inB e (-1) 29 = false := by simpa using he
      have hv : isMarkB i e c = false := by rw [Bool.eq_false_iff, ne_eq, isMarkB_iff]; simp [he]
      rw [hv]; clear hv he
      go_enter Try.func24, Try.ntmps24
      go_wp2_with (go_at_call 52; refine (toB (i_in _ _ _ _) (by assumption)).mono ?_; rintro e w' ⟨rfl, rfl⟩)
      go_ret
      exact ⟨rfl, below_alloc _ _⟩
  · have hi' : inB i 0 15 = false := by simpa using hi
    have hv : isMarkB i e c = false := by rw [Bool.eq_false_iff, ne_eq, isMarkB_iff]; simp [hi]
    rw [hv]; clear hv hi
    go_enter Try.func24, Try.ntmps24
    go_wp2_with (go_at_call 52; refine (toB (i_in _ _ _ _) (by assumption)).mono ?_; rintro e w' ⟨rfl, rfl⟩)
    go_ret
    exact ⟨rfl, below_alloc _ _⟩
theorem s_IsYearMark (i e c : Int) (w : World) : Calls Try.prog 25 #[.agg #[.int .i64 i, .int .i64 e, .int .i64 c]] w fun r w' => r = .returned (.bool (isMarkB i e c)) ∧ Below w.heap.size w w' := by
  by_cases hi : inB i 0 15 = true
  · by_cases he : inB e (-1) 29 = true
    · have hv : isMarkB i e c = inB c 0 7 := by rw [Bool.eq_iff_iff, isMarkB_iff]; simp [hi, he]
      rw [hv]; clear hv
      obtain ⟨bd, hbd⟩ : ∃ b, inB c 0 7 = b := ⟨_, rfl⟩
      rw [hbd]
      go_enter Try.func25, Try.ntmps25
      go_wp2_with (go_at_call 48; refine (toB (s_in _ _ _ _) (by assumption)).mono ?_; rintro e w' ⟨rfl, rfl⟩)
      go_ret
      exact ⟨rfl, below_alloc _ _⟩
    · have he' : inB e (-1) 29 = false := by simpa using he
      have hv : isMarkB i e c = false := by rw [Bool.eq_false_iff, ne_eq, isMarkB_iff]; simp [he]
      rw [hv]; clear hv he
      go_enter Try.func25, Try.ntmps25
      go_wp2_with (go_at_call 48; refine (toB (s_in _ _ _ _) (by assumption)).mono ?_; rintro e w' ⟨rfl, rfl⟩)
      go_ret
      exact ⟨rfl, below_alloc _ _⟩
  · have hi' : inB i 0 15 = false := by simpa using hi
    have hv : isMarkB i e c = false := by rw [Bool.eq_false_iff, ne_eq, isMarkB_iff]; simp [hi]
    rw [hv]; clear hv hi
    go_enter Try.func25, Try.ntmps25
    go_wp2_with (go_at_call 48; refine (toB (s_in _ _ _ _) (by assumption)).mono ?_; rintro e w' ⟨rfl, rfl⟩)
    go_ret
    exact ⟨rfl, below_alloc _ _⟩
end Go.Proofs.Ytffpaedhdjnbjaa
