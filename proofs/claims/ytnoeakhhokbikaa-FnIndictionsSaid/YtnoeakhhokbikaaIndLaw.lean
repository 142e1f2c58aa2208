/- What the law of indictions asks, plainly. No condition. -/
import Derived.Test.YtnoeakhhokbikaaIndDays
import Derived.Test.YtnoeakhhokbikaaIndOn
import Derived.Test.YtnoeakhhokbikaaMarks
namespace Go.Proofs.Ytnoeakhhokbikaa
open Go.RowKit
theorem ind_day {k i f t E : Int} {l : List Sp} (h : idF k i f t = (l, E)) : E = 0 → 0 ≤ f ∧ f ≤ t ∧ t ≤ 730499 ∧ t - f ≤ 40000 ∧ norm l ∧ l.length ≤ 120 ∧ (∀ s ∈ l, 0 ≤ s.1 ∧ s.1 ≤ s.2 ∧ s.2 ≤ 730499) ∧
    ∀ m, f ≤ m → m ≤ t → ∃ x, indOnF k m = (x, 0) ∧ (cov l m ↔ x = i) := by
  rintro rfl
  unfold idF at h
  split at h
  · rename_i hh
    injection h with h _
    subst h
    simp only [Bool.and_eq_true, decide_eq_true_eq] at hh
    obtain ⟨⟨⟨⟨⟨hk, hi⟩, hf⟩, ht⟩, hft⟩, hg⟩ := hh
    obtain ⟨f0, f1⟩ := inB_iff.1 hf
    obtain ⟨t0, t1⟩ := inB_iff.1 ht
    obtain ⟨hn, hc⟩ := indSet_ok k i f t
    refine ⟨f0, hft, t1, hg, hn, indSet_small k i f t hg, ?_, ?_⟩
    · intro s hs
      obtain ⟨q0, q1, q2⟩ := norm_bd hn (a := f) (b := t) (fun n h => by
        obtain ⟨c1, c2, _⟩ := (hc n).1 h
        exact ⟨c1, c2⟩) s hs
      exact ⟨by omega, q1, by omega⟩
    · intro m m0 m1
      have hm : inB m 0 730499 = true := inB_iff.2 ⟨by omega, by omega⟩
      refine ⟨indY' (iyr k m), ?_, ?_⟩
      · unfold indOnF
        rw [if_pos (by simp [hk, hm]), indOn_iyr]
      · rw [hc m]
        constructor
        · rintro ⟨_, _, h⟩; exact h
        · intro h; exact ⟨m0, m1, h⟩
  · simp at h
theorem ind_bd {k n X B : Int} (h : indOnF k n = (X, B)) : B = 0 → 1 ≤ X ∧ X ≤ 15 := by
  rintro rfl
  unfold indOnF at h
  split at h
  · injection h with h _
    subst h
    unfold indOn indY
    split <;> omega
  · simp at h
theorem ind_next {y I T : Int} (h : indF y = (I, T)) : T = 0 → y ≤ 1985 → indF (y + 15) = (I, 0) ∧ indF (y + 1) = (I % 15 + 1, 0) ∧ 1 ≤ I ∧ I ≤ 15 := by
  rintro rfl hy
  unfold indF at h
  split at h
  · rename_i hh
    obtain ⟨y0, y1⟩ := inB_iff.1 hh
    injection h with h _
    subst h
    unfold indF
    rw [if_pos (inB_iff.2 ⟨by omega, by omega⟩), if_pos (inB_iff.2 ⟨by omega, by omega⟩)]
    refine ⟨?_, ?_, by omega, by omega⟩
    · congr 1; omega
    · congr 1; omega
  · simp at h
theorem idF_err {k i f t : Int} (h : (idF k i f t).2 ≠ 0) : (idF k i f t).1 = [] := by
  unfold idF at h ⊢
  split at h
  · simp at h
  · rename_i h1
    rw [if_neg h1]
end Go.Proofs.Ytnoeakhhokbikaa
