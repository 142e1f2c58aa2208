/- IndictionDays of the reference returns what the plain function says. No condition. -/
import Derived.Test.YtnoeakhhokbikaaIndS0
namespace Go.Proofs.Ytnoeakhhokbikaa
open Go.RowKit
theorem s_l08Set (k i a b : Int) (w : World) (hk : inB k 0 2 = true) (a0 : 0 ≤ a) (hab : a ≤ b) (b1 : b ≤ 730499) (hg : b - a ≤ 40000) : Calls Try.prog 25 #[.int .i64 k, .int .i64 i, .int .i64 a, .int .i64 b] w fun e w' => ∃ v, e = .returned v ∧ OwnP w' w.heap.size v (indSet k i a b) ∧ Below w.heap.size w w' := by
  obtain ⟨k0, k1⟩ := inB_iff.1 hk
  have h3 : k = 0 ∨ k = 1 ∨ k = 2 := by omega
  rcases h3 with rfl | rfl | rfl
  · exact s_l08Set0 i a b w a0 hab b1 hg
  · exact s_l08Set1 i a b w a0 hab b1 hg
  · exact s_l08Set2 i a b w a0 hab b1 hg
set_option maxRecDepth 100000 in
set_option maxHeartbeats 2000000 in
theorem s_IndictionDays (k i a b : Int) (w : World) : Calls Try.prog 5 #[.int .i64 k, .int .i64 i, .int .i64 a, .int .i64 b] w fun e w' => ∃ v, e = .returned (.tuple #[v, .int .i64 (idF k i a b).2]) ∧ OwnP w' w.heap.size v (idF k i a b).1 ∧ Below w.heap.size w w' := by
  have HNO := fun h => idF_no (k := k) (i := i) (a := a) (b := b) h
  by_cases hk : inB k 0 2 = true
  rotate_left
  · rw [HNO (fun h => hk h.1)]; clear HNO
    replace hk : inB k 0 2 = false := by simpa using hk
    go_enter Try.func5, Try.ntmps5
    go_wp2_with (first | (go_at_call 22; refine (toB (s_kind _ _) (by assumption)).mono ?_; rintro e w' ⟨rfl, rfl⟩) | (go_at_call 24; refine (toB (s_day _ _) (by assumption)).mono ?_; rintro e w' ⟨rfl, rfl⟩) | (go_at_call 23; refine (toB (s_in _ _ _ _) (by assumption)).mono ?_; rintro e w' ⟨rfl, rfl⟩))
    go_ret2
    exact ⟨_, rfl, OwnP.nil _ _, Below.refl _ _⟩
  by_cases hi : inB i 1 15 = true
  rotate_left
  · rw [HNO (fun h => hi h.2.1)]; clear HNO
    replace hi : inB i 1 15 = false := by simpa using hi
    go_enter Try.func5, Try.ntmps5
    go_wp2_with (first | (go_at_call 22; refine (toB (s_kind _ _) (by assumption)).mono ?_; rintro e w' ⟨rfl, rfl⟩) | (go_at_call 24; refine (toB (s_day _ _) (by assumption)).mono ?_; rintro e w' ⟨rfl, rfl⟩) | (go_at_call 23; refine (toB (s_in _ _ _ _) (by assumption)).mono ?_; rintro e w' ⟨rfl, rfl⟩))
    go_ret2
    exact ⟨_, rfl, OwnP.nil _ _, Below.refl _ _⟩
  by_cases ha : inB a 0 730499 = true
  rotate_left
  · rw [HNO (fun h => ha h.2.2.1)]; clear HNO
    replace ha : inB a 0 730499 = false := by simpa using ha
    go_enter Try.func5, Try.ntmps5
    go_wp2_with (first | (go_at_call 22; refine (toB (s_kind _ _) (by assumption)).mono ?_; rintro e w' ⟨rfl, rfl⟩) | (go_at_call 24; refine (toB (s_day _ _) (by assumption)).mono ?_; rintro e w' ⟨rfl, rfl⟩) | (go_at_call 23; refine (toB (s_in _ _ _ _) (by assumption)).mono ?_; rintro e w' ⟨rfl, rfl⟩))
    go_ret2
    exact ⟨_, rfl, OwnP.nil _ _, Below.refl _ _⟩
  obtain ⟨a0, a1⟩ := inB_iff.1 ha
  have hcs : ∃ m, (730499 ≤ a + 40000 ∧ m = 730499) ∨ (a + 40000 < 730499 ∧ m = a + 40000) := by
    by_cases h : 730499 ≤ a + 40000
    · exact ⟨_, .inl ⟨h, rfl⟩⟩
    · exact ⟨_, .inr ⟨by omega, rfl⟩⟩
  obtain ⟨m, hcs⟩ := hcs
  have hm' : m ≤ 730499 ∧ m ≤ a + 40000 ∧ (m = 730499 ∨ m = a + 40000) := by omega
  rcases hcs with ⟨hc, hme⟩ | ⟨hc, hme⟩
  all_goals
    by_cases hb : inB b a m = true
    rotate_left
    · rw [HNO (fun h => by
        obtain ⟨q0, q1⟩ := inB_iff.1 h.2.2.2.1
        exact hb (inB_iff.2 ⟨h.2.2.2.2.1, by have := h.2.2.2.2.2; omega⟩))]
      clear HNO
      replace hb : inB b a m = false := by simpa using hb
      subst hme
      go_enter Try.func5, Try.ntmps5
      go_wp2_with (first | (go_at_call 22; refine (toB (s_kind _ _) (by assumption)).mono ?_; rintro e w' ⟨rfl, rfl⟩) | (go_at_call 24; refine (toB (s_day _ _) (by assumption)).mono ?_; rintro e w' ⟨rfl, rfl⟩) | (go_at_call 23; refine (toB (s_in _ _ _ _) (by assumption)).mono ?_; rintro e w' ⟨rfl, rfl⟩))
      go_ret2
      exact ⟨_, rfl, OwnP.nil _ _, Below.refl _ _⟩
    obtain ⟨b0, b1⟩ := inB_iff.1 hb
    rw [idF_yes hk hi ha (inB_iff.2 ⟨by omega, by omega⟩) b0 (by omega)]; clear HNO
    subst hme
    have CON := Lib.hid (fun W => s_l08Set k i a b W hk a0 b0 (by omega) (by omega))
    go_enter Try.func5, Try.ntmps5
    go_wp2_with (first | (go_at_call 22; refine (toB (s_kind _ _) (by assumption)).mono ?_; rintro e w' ⟨rfl, rfl⟩) | (go_at_call 24; refine (toB (s_day _ _) (by assumption)).mono ?_; rintro e w' ⟨rfl, rfl⟩) | (go_at_call 23; refine (toB (s_in _ _ _ _) (by assumption)).mono ?_; rintro e w' ⟨rfl, rfl⟩))
    refine (CON.out _).mono ?_
    rintro e w1 ⟨v, rfl, V, L⟩
    go_wp2_with fail
    go_ret2
    exact ⟨_, rfl, V, L⟩
end Go.Proofs.Ytnoeakhhokbikaa
