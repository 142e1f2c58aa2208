/- The days of a year in a style with a month and a day: the exported functions of the program and of the reference. No condition. -/
import Derived.Test.YtffpaedhdjnbjaaDaysWith
namespace Go.Proofs.Ytffpaedhdjnbjaa
open Go.RowKit
set_option maxHeartbeats 1000000 in
theorem s_DaysWith (s y m d : Int) (w : World) : Calls Try.prog 28 #[.int .i64 s, .int .i64 y, .int .i64 m, .int .i64 d] w fun e w' => ∃ v, e = .returned (.tuple #[v, .int .i64 (dwsF s y m d).2]) ∧ OwnI w' w.heap.size v (dwsF s y m d).1 ∧ Below w.heap.size w w' := by
  by_cases hs : inB s 0 6 = true
  · by_cases hy : inB y 2 1999 = true
    · obtain ⟨y0, y1⟩ := inB_iff.1 hy
      obtain ⟨b, hv⟩ : ∃ b, validB 4 m d = b := ⟨_, rfl⟩
      cases b
      · have hF : dwsF s y m d = ([], 2) := by simp [dwsF, hv]
        rw [hF]; clear hF
        have HV := Lib.hid hv; clear hv
        go_enter Try.func28, Try.ntmps28
        go_wp2_with (first | (go_at_call 76; refine (toB (s_style _ _) (by assumption)).mono ?_; rintro e w' ⟨rfl, rfl⟩) | (go_at_call 77; refine (toB (s_styear _ _) (by assumption)).mono ?_; rintro e w' ⟨rfl, rfl⟩))
        refine (toBelowB (s_old _ _ _ _) HV.out).mono ?_
        rintro e w1 ⟨rfl, hb⟩
        go_wp2_with fail
        go_ret2
        exact ⟨_, rfl, OwnI.nil _ _, hb⟩
      · have hF : dwsF s y m d = (dws s y m d, 0) := by simp [dwsF, hv, hs, hy]
        rw [hF]; clear hF
        have HV := Lib.hid hv; clear hv
        obtain ⟨r0, r1, r2, r3, r4, r5⟩ := span_days s y y0 y1
        go_enter Try.func28, Try.ntmps28
        go_wp2_with (first | (go_at_call 76; refine (toB (s_style _ _) (by assumption)).mono ?_; rintro e w' ⟨rfl, rfl⟩) | (go_at_call 77; refine (toB (s_styear _ _) (by assumption)).mono ?_; rintro e w' ⟨rfl, rfl⟩))
        refine (toBelowB (s_old _ _ _ _) HV.out).mono ?_
        rintro e w1 ⟨rfl, hb⟩
        go_wp2_with fail
        refine (s_span _ _ _ hs y0 y1).mono ?_
        rintro e w2 ⟨rfl, hb2⟩
        go_wp2_with fail
        refine (s_l06Days _ _ _ _ _ (by omega) (by omega) (by omega) (by omega) (by omega) (by omega)).mono ?_
        rintro e w3 ⟨v, rfl, hown, hb3⟩
        rw [← dws_eq s y m d y0 y1] at hown
        go_wp2_with fail
        go_ret2
        exact ⟨_, rfl, hown.mono (Nat.le_trans hb.size hb2.size), below_step (below_step hb hb2) hb3⟩
    · have hy' : inB y 2 1999 = false := by simpa using hy
      have hF : dwsF s y m d = ([], 2) := by simp [dwsF, hy']
      rw [hF]; clear hF hy
      go_enter Try.func28, Try.ntmps28
      go_wp2_with (first | (go_at_call 76; refine (toB (s_style _ _) (by assumption)).mono ?_; rintro e w' ⟨rfl, rfl⟩) | (go_at_call 77; refine (toB (s_styear _ _) (by assumption)).mono ?_; rintro e w' ⟨rfl, rfl⟩))
      go_ret2
      exact ⟨_, rfl, OwnI.nil _ _, Below.refl _ _⟩
  · have hs' : inB s 0 6 = false := by simpa using hs
    have hF : dwsF s y m d = ([], 2) := by simp [dwsF, hs']
    rw [hF]; clear hF hs
    go_enter Try.func28, Try.ntmps28
    go_wp2_with (first | (go_at_call 76; refine (toB (s_style _ _) (by assumption)).mono ?_; rintro e w' ⟨rfl, rfl⟩) | (go_at_call 77; refine (toB (s_styear _ _) (by assumption)).mono ?_; rintro e w' ⟨rfl, rfl⟩))
    go_ret2
    exact ⟨_, rfl, OwnI.nil _ _, Below.refl _ _⟩
set_option maxHeartbeats 1000000 in
theorem i_DaysWith (s y m d : Int) (w : World) : Calls Try.prog 27 #[.int .i64 s, .int .i64 y, .int .i64 m, .int .i64 d] w fun e w' => ∃ v, e = .returned (.tuple #[v, .int .i64 (dwsF s y m d).2]) ∧ OwnI w' w.heap.size v (dwsF s y m d).1 ∧ Below w.heap.size w w' := by
  by_cases hs : inB s 0 6 = true
  · by_cases hy : inB y 2 1999 = true
    · obtain ⟨y0, y1⟩ := inB_iff.1 hy
      obtain ⟨b, hv⟩ : ∃ b, validB 4 m d = b := ⟨_, rfl⟩
      cases b
      · have hF : dwsF s y m d = ([], 2) := by simp [dwsF, hv]
        rw [hF]; clear hF
        have HV := Lib.hid hv; clear hv
        go_enter Try.func27, Try.ntmps27
        go_wp2_with (first | (go_at_call 72; refine (toB (i_style _ _) (by assumption)).mono ?_; rintro e w' ⟨rfl, rfl⟩) | (go_at_call 73; refine (toB (i_styear _ _) (by assumption)).mono ?_; rintro e w' ⟨rfl, rfl⟩))
        refine (toBelowB (i_monthDay _ _ _) HV.out).mono ?_
        rintro e w1 ⟨rfl, hb⟩
        go_wp2_with fail
        go_ret2
        exact ⟨_, rfl, OwnI.nil _ _, hb⟩
      · have hF : dwsF s y m d = (dws s y m d, 0) := by simp [dwsF, hv, hs, hy]
        rw [hF]; clear hF
        have HV := Lib.hid hv; clear hv
        obtain ⟨r0, r1, r2, r3, r4, r5⟩ := span_days s y y0 y1
        go_enter Try.func27, Try.ntmps27
        go_wp2_with (first | (go_at_call 72; refine (toB (i_style _ _) (by assumption)).mono ?_; rintro e w' ⟨rfl, rfl⟩) | (go_at_call 73; refine (toB (i_styear _ _) (by assumption)).mono ?_; rintro e w' ⟨rfl, rfl⟩))
        refine (toBelowB (i_monthDay _ _ _) HV.out).mono ?_
        rintro e w1 ⟨rfl, hb⟩
        go_wp2_with fail
        refine (i_daysWith _ _ _ _ _ hs y0 y1).mono ?_
        rintro e w3 ⟨v, rfl, hown, hb3⟩
        go_wp2_with fail
        go_ret2
        exact ⟨_, rfl, hown.mono hb.size, below_step hb hb3⟩
    · have hy' : inB y 2 1999 = false := by simpa using hy
      have hF : dwsF s y m d = ([], 2) := by simp [dwsF, hy']
      rw [hF]; clear hF hy
      go_enter Try.func27, Try.ntmps27
      go_wp2_with (first | (go_at_call 72; refine (toB (i_style _ _) (by assumption)).mono ?_; rintro e w' ⟨rfl, rfl⟩) | (go_at_call 73; refine (toB (i_styear _ _) (by assumption)).mono ?_; rintro e w' ⟨rfl, rfl⟩))
      go_ret2
      exact ⟨_, rfl, OwnI.nil _ _, Below.refl _ _⟩
  · have hs' : inB s 0 6 = false := by simpa using hs
    have hF : dwsF s y m d = ([], 2) := by simp [dwsF, hs']
    rw [hF]; clear hF hs
    go_enter Try.func27, Try.ntmps27
    go_wp2_with (first | (go_at_call 72; refine (toB (i_style _ _) (by assumption)).mono ?_; rintro e w' ⟨rfl, rfl⟩) | (go_at_call 73; refine (toB (i_styear _ _) (by assumption)).mono ?_; rintro e w' ⟨rfl, rfl⟩))
    go_ret2
    exact ⟨_, rfl, OwnI.nil _ _, Below.refl _ _⟩
end Go.Proofs.Ytffpaedhdjnbjaa
