/- What the law of styles asks, plainly: differences of years, the styles of a day, the names of styles. No condition. -/
import Derived.Test.YtnoeakhhokbikaaDoorStylesFor
import Derived.Test.YtnoeakhhokbikaaDoorYearDiff
import Derived.Test.YtnoeakhhokbikaaDoorStyleNamed
namespace Go.Proofs.YtnoeakhhokbikaaDoor
open Go.RowKit
theorem ysc_found {s n : Int} : ∀ (k : Nat) (y : Int), (ysc s n k y).2 = true → hit s n (ysc s n k y).1 = true ∧ y ≤ (ysc s n k y).1 ∧ (ysc s n k y).1 < y + k
  | 0, y, h => by simp [ysc] at h
  | k + 1, y, h => by
    unfold ysc at h ⊢
    by_cases hh : hit s n y = true
    · rw [if_pos hh]
      exact ⟨hh, Int.le_refl _, by show y < y + _; omega⟩
    · rw [if_neg hh] at h ⊢
      obtain ⟨a, b, c⟩ := ysc_found k (y + 1) h
      exact ⟨a, by omega, by omega⟩
theorem yrOn_found {s n : Int} (h : (yrOn s n).2 = true) : hit s n (yrOn s n).1 = true ∧ yr n - 1 ≤ (yrOn s n).1 ∧ (yrOn s n).1 ≤ yr n + 1 := by
  obtain ⟨a, b, c⟩ := ysc_found 3 _ h
  exact ⟨a, b, by have : (yrOn s n).1 < yr n - 1 + 3 := c; omega⟩
theorem diff_law {a b n D T : Int} (h : diffF a b n = (D, T)) : T = 0 → diffF b a n = (-D, 0) ∧ -2 ≤ D ∧ D ≤ 2 := by
  rintro rfl
  unfold diffF at h
  split at h
  · rename_i h1
    split at h
    · rename_i h2
      injection h with h _
      subst h
      simp only [Bool.and_eq_true] at h1 h2
      obtain ⟨⟨ha, hb⟩, hn⟩ := h1
      have fa := yrOn_found h2.1
      have fb := yrOn_found h2.2
      refine ⟨?_, by omega, by omega⟩
      unfold diffF
      rw [if_pos (by simp [ha, hb, hn]), if_pos (by simp [h2.1, h2.2])]
      congr 1; omega
    · simp at h
  · simp at h
theorem stl_mem {n y z : Int} : ∀ k : Nat, z ∈ stl n y k → 0 ≤ z ∧ z < k ∧ stHit n y z = true
  | 0, h => by simp [stl] at h
  | k + 1, h => by
    simp only [stl, List.mem_append] at h
    rcases h with h | h
    · obtain ⟨a, b, c⟩ := stl_mem k h
      exact ⟨a, by omega, c⟩
    · split at h
      · rename_i hh
        simp at h
        subst h
        exact ⟨by omega, by omega, hh⟩
      · simp at h
theorem st_day {n y z : Int} (h : z ∈ (stF n y).1) : yrOnF z n = (y, 0) := by
  unfold stF at h
  split at h
  · rename_i hh
    simp only [Bool.and_eq_true] at hh
    obtain ⟨a, b, c⟩ := stl_mem 7 h
    unfold stHit at c
    simp only [Bool.and_eq_true, decide_eq_true_eq] at c
    have e1 : inB z 0 6 = true := inB_iff.2 ⟨a, by omega⟩
    unfold yrOnF
    rw [if_pos (by simp [e1, hh.1]), if_pos c.1, c.2]
  · simp at h
theorem stF_err {n y : Int} (h : (stF n y).2 ≠ 0) : (stF n y).1 = [] := by
  unfold stF at h ⊢
  split at h
  · simp at h
  · rename_i h1
    rw [if_neg h1]
theorem own_span {s n Y B : Int} (h : yrOnF s n = (Y, B)) : B = 0 → ∃ P0 P1, spanF s Y = ((P0, P1), 0) ∧ P0 ≤ n ∧ n ≤ P1 := by
  rintro rfl
  unfold yrOnF at h
  split at h
  · rename_i h1
    split at h
    · rename_i h2
      injection h with h _
      subst h
      obtain ⟨f, _, _⟩ := yrOn_found h2
      unfold hit at f
      simp only [Bool.and_eq_true] at f h1
      refine ⟨_, _, by unfold spanF; rw [if_pos (by simp [h1.1, f.1])], ?_⟩
      exact inB_iff.1 f.2
    · simp at h
  · simp at h
theorem nm_yes {k : Int} (h : inB k 0 6 = true) : stN (nameAt stylesL 0 6 0 k) = (k, true) ∧ 1 ≤ (nameAt stylesL 0 6 0 k).length := by
  obtain ⟨a, b⟩ := inB_iff.1 h
  have hk : k = 0 ∨ k = 1 ∨ k = 2 ∨ k = 3 ∨ k = 4 ∨ k = 5 ∨ k = 6 := by omega
  rcases hk with rfl | rfl | rfl | rfl | rfl | rfl | rfl <;> decide +kernel
theorem nm_no {k : Int} (h : inB k 0 6 = false) : nameAt stylesL 0 6 0 k = [] := by
  unfold nameAt; rw [if_neg (by simp [h])]
theorem stN_nil : stN [] = (0, false) := by decide +kernel
end Go.Proofs.YtnoeakhhokbikaaDoor
