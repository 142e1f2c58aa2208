/- LengthOfYear and OldDate: what the program's and the reference's functions return. Condition: OldDate's day in its range. -/
import Derived.Test.YtffpaedhdjnbjaaStyP
namespace Go.Proofs.Ytffpaedhdjnbjaa
open Go.RowKit
def lenF (s y : Int) : Int × Int := if inB s 0 6 && inB y 2 1999 then (beg s (y + 1) - 1 - beg s y + 1, 0) else (0, 2)
set_option maxHeartbeats 1000000 in
theorem i_LengthOfYear (s y : Int) (w : World) : Calls Try.prog 32 #[.int .i64 s, .int .i64 y] w fun e w' => e = .returned (.tuple #[.int .i64 (lenF s y).1, .int .i64 (lenF s y).2]) ∧ Below w.heap.size w w' := by
  have con := fun W => i_YearSpan s y W
  by_cases h : (inB s 0 6 && inB y 2 1999) = true
  · have hF : spanF s y = ((beg s y, beg s (y + 1) - 1), 0) := by unfold spanF; rw [if_pos h]
    have hL : lenF s y = (beg s (y + 1) - 1 - beg s y + 1, 0) := by unfold lenF; rw [if_pos h]
    rw [hF] at con
    rw [hL]
    simp only [Bool.and_eq_true] at h
    obtain ⟨y0, y1⟩ := inB_iff.1 h.2
    obtain ⟨p0, p1, p2, _⟩ := span_days s y y0 y1
    obtain ⟨A, hA⟩ : ∃ A, beg s y = A := ⟨_, rfl⟩
    obtain ⟨B, hB⟩ : ∃ B, beg s (y + 1) - 1 = B := ⟨_, rfl⟩
    rw [hA, hB] at con p1
    rw [hA] at p0
    rw [hB] at p2
    rw [hA, hB]
    dsimp only at con ⊢
    clear hA hB hF hL h y0 y1
    go_enter Try.func32, Try.ntmps32
    go_wp2_with fail
    refine (con _).mono ?_
    rintro e w1 ⟨rfl, hb⟩
    go_wp2_with fail
    refine bodyPost_ret (v := .tuple #[.int .i64 (B - A + 1), .int .i64 0]) (by simp [results, Try.results32, go_sem]) rfl ⟨rfl, below_more hb hb.size _⟩
  · have hF : spanF s y = ((0, 0), 2) := by unfold spanF; rw [if_neg h]
    have hL : lenF s y = (0, 2) := by unfold lenF; rw [if_neg h]
    rw [hF] at con
    rw [hL]
    dsimp only at con ⊢
    go_enter Try.func32, Try.ntmps32
    go_wp2_with fail
    refine (con _).mono ?_
    rintro e w1 ⟨rfl, hb⟩
    go_wp2_with fail
    refine bodyPost_ret (v := .tuple #[.int .i64 0, .int .i64 2]) (by simp [results, Try.results32, go_sem]) rfl ⟨rfl, below_more hb hb.size _⟩
set_option maxHeartbeats 1000000 in
theorem s_LengthOfYear (s y : Int) (w : World) : Calls Try.prog 33 #[.int .i64 s, .int .i64 y] w fun e w' => e = .returned (.tuple #[.int .i64 (lenF s y).1, .int .i64 (lenF s y).2]) ∧ Below w.heap.size w w' := by
  by_cases hs : inB s 0 6 = true
  · by_cases hy : inB y 2 1999 = true
    · have hL : lenF s y = (beg s (y + 1) - 1 - beg s y + 1, 0) := by unfold lenF; rw [hs, hy]; rfl
      rw [hL]; clear hL
      obtain ⟨y0, y1⟩ := inB_iff.1 hy
      obtain ⟨p0, p1, p2, _⟩ := span_days s y y0 y1
      have con := fun W => s_span s y W hs y0 y1
      obtain ⟨A, hA⟩ : ∃ A, beg s y = A := ⟨_, rfl⟩
      obtain ⟨B, hB⟩ : ∃ B, beg s (y + 1) - 1 = B := ⟨_, rfl⟩
      rw [hA, hB] at con p1
      rw [hA] at p0
      rw [hB] at p2
      rw [hA, hB]
      clear hA hB
      go_enter Try.func33, Try.ntmps33
      go_wp2_with (first | (go_at_call 76; refine (toB (s_style _ _) (by assumption)).mono ?_; rintro e w' ⟨rfl, rfl⟩) | (go_at_call 77; refine (toB (s_styear _ _) (by assumption)).mono ?_; rintro e w' ⟨rfl, rfl⟩))
      refine (con _).mono ?_
      rintro e w1 ⟨rfl, hb⟩
      go_wp2_with fail
      refine bodyPost_ret (v := .tuple #[.int .i64 (B - A + 1), .int .i64 0]) (by simp [results, Try.results33, go_sem]) rfl ⟨rfl, below_more hb hb.size _⟩
    · have hy' : inB y 2 1999 = false := by simpa using hy
      have hL : lenF s y = (0, 2) := by unfold lenF; rw [hs, hy']; rfl
      rw [hL]; clear hL hy
      go_enter Try.func33, Try.ntmps33
      go_wp2_with (first | (go_at_call 76; refine (toB (s_style _ _) (by assumption)).mono ?_; rintro e w' ⟨rfl, rfl⟩) | (go_at_call 77; refine (toB (s_styear _ _) (by assumption)).mono ?_; rintro e w' ⟨rfl, rfl⟩))
      refine bodyPost_ret (v := .tuple #[.int .i64 0, .int .i64 2]) (by simp [results, Try.results33, go_sem]) rfl ⟨rfl, Below.refl _ _⟩
  · have hs' : inB s 0 6 = false := by simpa using hs
    have hL : lenF s y = (0, 2) := by unfold lenF; rw [hs']; rfl
    rw [hL]; clear hL hs
    go_enter Try.func33, Try.ntmps33
    go_wp2_with (first | (go_at_call 76; refine (toB (s_style _ _) (by assumption)).mono ?_; rintro e w' ⟨rfl, rfl⟩) | (go_at_call 77; refine (toB (s_styear _ _) (by assumption)).mono ?_; rintro e w' ⟨rfl, rfl⟩))
    refine bodyPost_ret (v := .tuple #[.int .i64 0, .int .i64 2]) (by simp [results, Try.results33, go_sem]) rfl ⟨rfl, Below.refl _ _⟩
set_option maxHeartbeats 1000000 in
theorem i_OldDate (n : Int) (w : World) (hn : inB n 0 730499 = true) : Calls Try.prog 34 #[.int .i64 n] w fun e w' => e = .returned (.tuple #[.agg #[.int .i64 (yr n), .int .i64 (mo n), .int .i64 (dy n)], .int .i64 0]) ∧ Below w.heap.size w w' := by
  obtain ⟨n0, n1⟩ := inB_iff.1 hn
  go_enter Try.func34, Try.ntmps34
  go_wp2_with (first | (go_at_call 53; refine (toB (i_day _ _) (by assumption)).mono ?_; rintro e w' ⟨rfl, rfl⟩))
  refine (i_dateOf _ _ n0 n1).mono ?_
  rintro e w1 ⟨rfl, hb⟩
  have R := (Blk.new w _ _).below hb (by simp)
  have c0 := R.c0
  have c1 := R.c1
  have c2 := R.c2
  have f0 := R.frozen 0
  have f1 := R.frozen 1
  have f2 := R.frozen 2
  have hr := R.lt
  go_wp2_with fail
  refine bodyPost_ret (v := .tuple #[.agg #[.int .i64 (yr n), .int .i64 (mo n), .int .i64 (dy n)], .int .i64 0]) (by simp [results, Try.results34, go_sem, c0, c1, c2]) rfl ⟨rfl, ?_⟩
  exact below_set' (below_set' (below_set' (below_step (below_alloc _ _) hb) (by omega) _ _) (by omega) _ _) (by omega) _ _
end Go.Proofs.Ytffpaedhdjnbjaa
