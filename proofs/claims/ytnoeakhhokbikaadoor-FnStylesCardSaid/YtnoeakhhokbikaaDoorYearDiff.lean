/- The difference of a day's years in two styles: the program's and the reference's functions return what the plain function says. No condition. -/
import Derived.Test.YtnoeakhhokbikaaDoorYearOn
namespace Go.Proofs.YtnoeakhhokbikaaDoor
open Go.RowKit
theorem ysc_bd (s n : Int) : ∀ (k : Nat) (y : Int), 0 ≤ (ysc s n k y).1 ∧ (ysc s n k y).1 ≤ 1999
  | 0, _ => by simp [ysc]
  | k + 1, y => by
    unfold ysc
    by_cases h : hit s n y = true
    · have h' : inB y 2 1999 = true := by unfold hit at h; simp at h; exact h.1
      have := inB_iff.1 h'
      simp [h]; omega
    · simp [h]; exact ysc_bd s n k (y + 1)
theorem yrOn_bd (s n : Int) : 0 ≤ (yrOn s n).1 ∧ (yrOn s n).1 ≤ 1999 := ysc_bd s n 3 _
def diffF (a b n : Int) : Int × Int := if inB a 0 6 && inB b 0 6 && inB n 0 730499 then (if (yrOn a n).2 && (yrOn b n).2 then ((yrOn b n).1 - (yrOn a n).1, 0) else (0, 4)) else (0, 2)
set_option maxHeartbeats 800000 in
theorem s_YearDifference (a b n : Int) (w : World) : Calls Tryd.prog 19 #[.int .i64 a, .int .i64 b, .int .i64 n] w fun e w' => e = .returned (.tuple #[.int .i64 (diffF a b n).1, .int .i64 (diffF a b n).2]) ∧ Below w.heap.size w w' := by
  by_cases ha : inB a 0 6 = true
  · by_cases hb : inB b 0 6 = true
    · by_cases hn : inB n 0 730499 = true
      · obtain ⟨h0, h1⟩ := inB_iff.1 hn
        have hF : diffF a b n = if (yrOn a n).2 && (yrOn b n).2 then ((yrOn b n).1 - (yrOn a n).1, 0) else (0, 4) := by simp [diffF, ha, hb, hn]
        have con1 := fun W : World => s_yrOn a n W ha h0 h1
        have con2 := fun W : World => s_yrOn b n W hb h0 h1
        have u1 := yrOn_bd a n
        have u2 := yrOn_bd b n
        rw [hF]; clear hF
        obtain ⟨p, hp⟩ : ∃ p, yrOn a n = p := ⟨_, rfl⟩
        obtain ⟨q, hq⟩ : ∃ q, yrOn b n = q := ⟨_, rfl⟩
        simp only [hp, hq] at con1 con2 u1 u2 ⊢
        clear hp hq
        obtain ⟨x, bx⟩ := p
        obtain ⟨y, by'⟩ := q
        have C1 := Lib.hid con1; clear con1
        have C2 := Lib.hid con2; clear con2
        obtain ⟨u10, u11⟩ := u1
        obtain ⟨u20, u21⟩ := u2
        simp only at u10 u11 u20 u21
        cases bx <;> cases by'
        all_goals
          go_enter Tryd.func19, Tryd.ntmps19
          go_wp2_with (first | (go_at_call 55; refine (toB (s_style _ _) (by assumption)).mono ?_; rintro e w' ⟨rfl, rfl⟩) | (go_at_call 56; refine (toB (s_day _ _) (by assumption)).mono ?_; rintro e w' ⟨rfl, rfl⟩))
          refine (C1.out _).mono ?_
          rintro e w1 ⟨rfl, hb1⟩
          go_wp2_with fail
          refine (C2.out _).mono ?_
          rintro e w2 ⟨rfl, hb2⟩
          go_wp2_with fail
          go_ret2
          exact ⟨rfl, below_step hb1 hb2⟩
      · have hn' : inB n 0 730499 = false := by simpa using hn
        have hF : diffF a b n = (0, 2) := by simp [diffF, hn']
        rw [hF]; clear hF hn
        go_enter Tryd.func19, Tryd.ntmps19
        go_wp2_with (first | (go_at_call 55; refine (toB (s_style _ _) (by assumption)).mono ?_; rintro e w' ⟨rfl, rfl⟩) | (go_at_call 56; refine (toB (s_day _ _) (by assumption)).mono ?_; rintro e w' ⟨rfl, rfl⟩))
        go_ret2
        exact ⟨rfl, Below.refl _ _⟩
    · have hb' : inB b 0 6 = false := by simpa using hb
      have hF : diffF a b n = (0, 2) := by simp [diffF, hb']
      rw [hF]; clear hF hb
      go_enter Tryd.func19, Tryd.ntmps19
      go_wp2_with (first | (go_at_call 55; refine (toB (s_style _ _) (by assumption)).mono ?_; rintro e w' ⟨rfl, rfl⟩) | (go_at_call 56; refine (toB (s_day _ _) (by assumption)).mono ?_; rintro e w' ⟨rfl, rfl⟩))
      go_ret2
      exact ⟨rfl, Below.refl _ _⟩
  · have ha' : inB a 0 6 = false := by simpa using ha
    have hF : diffF a b n = (0, 2) := by simp [diffF, ha']
    rw [hF]; clear hF ha
    go_enter Tryd.func19, Tryd.ntmps19
    go_wp2_with (first | (go_at_call 55; refine (toB (s_style _ _) (by assumption)).mono ?_; rintro e w' ⟨rfl, rfl⟩) | (go_at_call 56; refine (toB (s_day _ _) (by assumption)).mono ?_; rintro e w' ⟨rfl, rfl⟩))
    go_ret2
    exact ⟨rfl, Below.refl _ _⟩
set_option maxHeartbeats 800000 in
theorem i_YearDifference (a b n : Int) (w : World) : Calls Tryd.prog 18 #[.int .i64 a, .int .i64 b, .int .i64 n] w fun e w' => e = .returned (.tuple #[.int .i64 (diffF a b n).1, .int .i64 (diffF a b n).2]) ∧ Below w.heap.size w w' := by
  by_cases ha : inB a 0 6 = true
  · by_cases hb : inB b 0 6 = true
    · by_cases hn : inB n 0 730499 = true
      · obtain ⟨h0, h1⟩ := inB_iff.1 hn
        have hF : diffF a b n = if (yrOn a n).2 && (yrOn b n).2 then ((yrOn b n).1 - (yrOn a n).1, 0) else (0, 4) := by simp [diffF, ha, hb, hn]
        have con1 := fun W : World => i_yrOn a n W ha h0 h1
        have con2 := fun W : World => i_yrOn b n W hb h0 h1
        have u1 := yrOn_bd a n
        have u2 := yrOn_bd b n
        rw [hF]; clear hF
        obtain ⟨p, hp⟩ : ∃ p, yrOn a n = p := ⟨_, rfl⟩
        obtain ⟨q, hq⟩ : ∃ q, yrOn b n = q := ⟨_, rfl⟩
        simp only [hp, hq] at con1 con2 u1 u2 ⊢
        clear hp hq
        obtain ⟨x, bx⟩ := p
        obtain ⟨y, by'⟩ := q
        have C1 := Lib.hid con1; clear con1
        have C2 := Lib.hid con2; clear con2
        obtain ⟨u10, u11⟩ := u1
        obtain ⟨u20, u21⟩ := u2
        simp only at u10 u11 u20 u21
        cases bx <;> cases by'
        all_goals
          go_enter Tryd.func18, Tryd.ntmps18
          go_wp2_with (first | (go_at_call 52; refine (toB (i_style _ _) (by assumption)).mono ?_; rintro e w' ⟨rfl, rfl⟩) | (go_at_call 53; refine (toB (i_day _ _) (by assumption)).mono ?_; rintro e w' ⟨rfl, rfl⟩))
          refine (C1.out _).mono ?_
          rintro e w1 ⟨rfl, hb1⟩
          go_wp2_with fail
          refine (C2.out _).mono ?_
          rintro e w2 ⟨rfl, hb2⟩
          go_wp2_with fail
          go_ret2
          exact ⟨rfl, below_step hb1 hb2⟩
      · have hn' : inB n 0 730499 = false := by simpa using hn
        have hF : diffF a b n = (0, 2) := by simp [diffF, hn']
        rw [hF]; clear hF hn
        go_enter Tryd.func18, Tryd.ntmps18
        go_wp2_with (first | (go_at_call 52; refine (toB (i_style _ _) (by assumption)).mono ?_; rintro e w' ⟨rfl, rfl⟩) | (go_at_call 53; refine (toB (i_day _ _) (by assumption)).mono ?_; rintro e w' ⟨rfl, rfl⟩))
        go_ret2
        exact ⟨rfl, Below.refl _ _⟩
    · have hb' : inB b 0 6 = false := by simpa using hb
      have hF : diffF a b n = (0, 2) := by simp [diffF, hb']
      rw [hF]; clear hF hb
      go_enter Tryd.func18, Tryd.ntmps18
      go_wp2_with (first | (go_at_call 52; refine (toB (i_style _ _) (by assumption)).mono ?_; rintro e w' ⟨rfl, rfl⟩) | (go_at_call 53; refine (toB (i_day _ _) (by assumption)).mono ?_; rintro e w' ⟨rfl, rfl⟩))
      go_ret2
      exact ⟨rfl, Below.refl _ _⟩
  · have ha' : inB a 0 6 = false := by simpa using ha
    have hF : diffF a b n = (0, 2) := by simp [diffF, ha']
    rw [hF]; clear hF ha
    go_enter Tryd.func18, Tryd.ntmps18
    go_wp2_with (first | (go_at_call 52; refine (toB (i_style _ _) (by assumption)).mono ?_; rintro e w' ⟨rfl, rfl⟩) | (go_at_call 53; refine (toB (i_day _ _) (by assumption)).mono ?_; rintro e w' ⟨rfl, rfl⟩))
    go_ret2
    exact ⟨rfl, Below.refl _ _⟩
end Go.Proofs.YtnoeakhhokbikaaDoor
