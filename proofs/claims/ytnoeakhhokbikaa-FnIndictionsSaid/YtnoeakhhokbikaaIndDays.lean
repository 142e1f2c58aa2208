/- IndictionDays: the program's and the reference's functions return what the plain function says. No condition. -/
import Derived.Test.YtnoeakhhokbikaaDaysFor
import Derived.Test.YtnoeakhhokbikaaMake
namespace Go.Proofs.Ytnoeakhhokbikaa
open Go.RowKit
theorem norm_bd {l : List Sp} (hn : norm l) {a b : Int} (h : ∀ n, cov l n → a ≤ n ∧ n ≤ b) : ∀ s ∈ l, a ≤ s.1 ∧ s.1 ≤ s.2 ∧ s.2 ≤ b := fun s hs => by
  have h0 := norm_le hn s hs
  have h1 := h s.1 ⟨s, hs, Int.le_refl _, h0⟩
  have h2 := h s.2 ⟨s, hs, h0, Int.le_refl _⟩
  exact ⟨h1.1, h0, h2.2⟩
theorem idF_no {k i a b : Int} (h : ¬ (inB k 0 2 = true ∧ inB i 1 15 = true ∧ inB a 0 730499 = true ∧ inB b 0 730499 = true ∧ a ≤ b ∧ b - a ≤ 40000)) : idF k i a b = ([], 2) := by
  unfold idF
  rw [if_neg]
  simp only [Bool.and_eq_true, decide_eq_true_eq]
  rintro ⟨⟨⟨⟨⟨h1, h2⟩, h3⟩, h4⟩, h5⟩, h6⟩
  exact h ⟨h1, h2, h3, h4, h5, h6⟩
theorem idF_yes {k i a b : Int} (h1 : inB k 0 2 = true) (h2 : inB i 1 15 = true) (h3 : inB a 0 730499 = true) (h4 : inB b 0 730499 = true) (h5 : a ≤ b) (h6 : b - a ≤ 40000) : idF k i a b = (indSet k i a b, 0) := by
  unfold idF
  rw [if_pos]
  simp [h1, h2, h3, h4, h5, h6]
set_option maxRecDepth 100000 in
set_option maxHeartbeats 2000000 in
theorem i_IndictionDays (k i a b : Int) (w : World) : Calls Try.prog 6 #[.int .i64 k, .int .i64 i, .int .i64 a, .int .i64 b] w fun e w' => ∃ v, e = .returned (.tuple #[v, .int .i64 (idF k i a b).2]) ∧ OwnP w' w.heap.size v (idF k i a b).1 ∧ Below w.heap.size w w' := by
  have HNO := fun h => idF_no (k := k) (i := i) (a := a) (b := b) h
  by_cases hk : inB k 0 2 = true
  rotate_left
  · rw [HNO (fun h => hk h.1)]; clear HNO
    replace hk : inB k 0 2 = false := by simpa using hk
    go_enter Try.func6, Try.ntmps6
    go_wp2_with (first | (go_at_call 26; refine (toB (i_kind _ _) (by assumption)).mono ?_; rintro e w' ⟨rfl, rfl⟩) | (go_at_call 28; refine (toB (i_day _ _) (by assumption)).mono ?_; rintro e w' ⟨rfl, rfl⟩) | (go_at_call 27; refine (toB (i_in _ _ _ _) (by assumption)).mono ?_; rintro e w' ⟨rfl, rfl⟩))
    go_ret2
    exact ⟨_, rfl, OwnP.nil _ _, below_more (below_alloc _ _) (by simp) _⟩
  by_cases hi : inB i 1 15 = true
  rotate_left
  · rw [HNO (fun h => hi h.2.1)]; clear HNO
    replace hi : inB i 1 15 = false := by simpa using hi
    go_enter Try.func6, Try.ntmps6
    go_wp2_with (first | (go_at_call 26; refine (toB (i_kind _ _) (by assumption)).mono ?_; rintro e w' ⟨rfl, rfl⟩) | (go_at_call 28; refine (toB (i_day _ _) (by assumption)).mono ?_; rintro e w' ⟨rfl, rfl⟩) | (go_at_call 27; refine (toB (i_in _ _ _ _) (by assumption)).mono ?_; rintro e w' ⟨rfl, rfl⟩))
    go_ret2
    exact ⟨_, rfl, OwnP.nil _ _, below_more (below_alloc _ _) (by simp) _⟩
  by_cases ha : inB a 0 730499 = true
  rotate_left
  · rw [HNO (fun h => ha h.2.2.1)]; clear HNO
    replace ha : inB a 0 730499 = false := by simpa using ha
    go_enter Try.func6, Try.ntmps6
    go_wp2_with (first | (go_at_call 26; refine (toB (i_kind _ _) (by assumption)).mono ?_; rintro e w' ⟨rfl, rfl⟩) | (go_at_call 28; refine (toB (i_day _ _) (by assumption)).mono ?_; rintro e w' ⟨rfl, rfl⟩) | (go_at_call 27; refine (toB (i_in _ _ _ _) (by assumption)).mono ?_; rintro e w' ⟨rfl, rfl⟩))
    go_ret2
    exact ⟨_, rfl, OwnP.nil _ _, below_more (below_alloc _ _) (by simp) _⟩
  by_cases hb : inB b 0 730499 = true
  rotate_left
  · rw [HNO (fun h => hb h.2.2.2.1)]; clear HNO
    replace hb : inB b 0 730499 = false := by simpa using hb
    go_enter Try.func6, Try.ntmps6
    go_wp2_with (first | (go_at_call 26; refine (toB (i_kind _ _) (by assumption)).mono ?_; rintro e w' ⟨rfl, rfl⟩) | (go_at_call 28; refine (toB (i_day _ _) (by assumption)).mono ?_; rintro e w' ⟨rfl, rfl⟩) | (go_at_call 27; refine (toB (i_in _ _ _ _) (by assumption)).mono ?_; rintro e w' ⟨rfl, rfl⟩))
    go_ret2
    exact ⟨_, rfl, OwnP.nil _ _, below_more (below_alloc _ _) (by simp) _⟩
  obtain ⟨a0, a1⟩ := inB_iff.1 ha
  obtain ⟨b0, b1⟩ := inB_iff.1 hb
  by_cases hab : a ≤ b
  rotate_left
  · rw [HNO (fun h => hab h.2.2.2.2.1)]; clear HNO
    have hab' : b < a := by omega
    clear hab
    go_enter Try.func6, Try.ntmps6
    go_wp2_with (first | (go_at_call 26; refine (toB (i_kind _ _) (by assumption)).mono ?_; rintro e w' ⟨rfl, rfl⟩) | (go_at_call 28; refine (toB (i_day _ _) (by assumption)).mono ?_; rintro e w' ⟨rfl, rfl⟩) | (go_at_call 27; refine (toB (i_in _ _ _ _) (by assumption)).mono ?_; rintro e w' ⟨rfl, rfl⟩))
    go_ret2
    exact ⟨_, rfl, OwnP.nil _ _, below_more (below_alloc _ _) (by simp) _⟩
  by_cases hg : b - a ≤ 40000
  rotate_left
  · rw [HNO (fun h => hg h.2.2.2.2.2)]; clear HNO
    have hg' : 40000 < b - a := by omega
    clear hg
    go_enter Try.func6, Try.ntmps6
    go_wp2_with (first | (go_at_call 26; refine (toB (i_kind _ _) (by assumption)).mono ?_; rintro e w' ⟨rfl, rfl⟩) | (go_at_call 28; refine (toB (i_day _ _) (by assumption)).mono ?_; rintro e w' ⟨rfl, rfl⟩) | (go_at_call 27; refine (toB (i_in _ _ _ _) (by assumption)).mono ?_; rintro e w' ⟨rfl, rfl⟩))
    go_ret2
    exact ⟨_, rfl, OwnP.nil _ _, below_more (below_alloc _ _) (by simp) _⟩
  rw [idF_yes hk hi ha hb hab hg]; clear HNO
  have hsm := indSet_small k i a b hg
  have hdi := dfor_ind k i a b hab
  have HK := Lib.hid (inB_iff.1 hk)
  have con := fun (bk bi : Nat) (W0 : World) (e0 : W0.cell? ⟨bk, 0, none⟩ = some (.int .i64 k)) (e1 : W0.cell? ⟨bi, 0, none⟩ = some (.int .i64 i)) (l0 : bk < W0.heap.size) (l1 : bi < W0.heap.size) =>
    i_daysFor (fun m => decide (indY' (iyr k m) = i)) (.pointer (some ⟨bk, 0, none⟩)) (.pointer (some ⟨bi, 0, none⟩)) a b W0 a0 hab b1 (fun m W hW m0 m1 =>
      i_days1 k i m bk bi W hk (by omega) (by omega) ((hW.cell (p := ⟨bk, 0, none⟩) l0).trans e0) ((hW.cell (p := ⟨bi, 0, none⟩) l1).trans e1) (Nat.lt_of_lt_of_le l0 hW.size) (Nat.lt_of_lt_of_le l1 hW.size))
  rw [hdi] at con
  have CON := Lib.hid con
  clear con hdi
  go_enter Try.func6, Try.ntmps6
  go_wp2_with (first | (go_at_call 26; refine (toB (i_kind _ _) (by assumption)).mono ?_; rintro e w' ⟨rfl, rfl⟩) | (go_at_call 28; refine (toB (i_day _ _) (by assumption)).mono ?_; rintro e w' ⟨rfl, rfl⟩) | (go_at_call 27; refine (toB (i_in _ _ _ _) (by assumption)).mono ?_; rintro e w' ⟨rfl, rfl⟩))
  refine (CON.out _ _ _ (by simp [go_sem]) (by simp [go_sem]) (by simp; omega) (by simp)).mono ?_
  rintro e w1 ⟨v, rfl, V, L⟩
  have L' := (below_more (below_alloc w _) (by simp) _).trans (L.mono (by simp; omega))
  have V' := V.mono (b' := w.heap.size) (by simp; omega)
  clear V L CON
  go_wp2_with fail
  refine (i_limited _ V' (by omega)).mono ?_
  rintro e w2 ⟨rfl, rfl⟩
  go_wp2_with fail
  go_ret2
  exact ⟨_, rfl, V', L'⟩
end Go.Proofs.Ytnoeakhhokbikaa
