/- The distance of two texts, plainly: the same both ways, no farther by way of a third one, none for equal texts alone. No condition. -/
import Derived.Test.YtmpgokijlikddaaGreatDoorLev
namespace Go.Proofs.YtmpgokijlikddaaGreatDoor
theorem lv_sym (a b : List UInt8) : ∀ i k : Nat, lv a b i k = lv b a k i
  | 0, k => by rw [lv_0, lv_i0]
  | i + 1, 0 => by rw [lv_s0, lv_0]; omega
  | i + 1, k + 1 => by
    have h1 := lv_sym a b i k
    have h2 := lv_sym a b i (k + 1)
    have h3 := lv_sym a b (i + 1) k
    rw [lv_ss, lv_ss, h1, h2, h3]
    have e : (if a.getD i 0 ≠ b.getD k 0 then (1 : Int) else 0) = (if b.getD k 0 ≠ a.getD i 0 then 1 else 0) := by
      by_cases hc : a.getD i 0 = b.getD k 0
      · rw [if_neg (by simpa using hc), if_neg (by simpa using hc.symm)]
      · rw [if_pos hc, if_pos (fun h => hc h.symm)]
    rw [e]
    omega
termination_by i k => (i, k)
theorem lv_low (a b : List UInt8) : ∀ i k : Nat, (k : Int) ≤ i + lv a b i k ∧ (i : Int) ≤ k + lv a b i k
  | 0, k => by rw [lv_0]; omega
  | i + 1, 0 => by rw [lv_s0]; omega
  | i + 1, k + 1 => by
    have h1 := lv_low a b i k
    have h2 := lv_low a b i (k + 1)
    have h3 := lv_low a b (i + 1) k
    rw [lv_ss]
    split <;> omega
termination_by i k => (i, k)
theorem lv_tri (a b c : List UInt8) : ∀ i j k : Nat, lv a c i k ≤ lv a b i j + lv b c j k
  | i, 0, k => by
    have := lv_bd a c i k
    rw [lv_i0, lv_0]; omega
  | 0, j + 1, k => by
    have := lv_low b c (j + 1) k
    rw [lv_0, lv_0]; omega
  | i + 1, j + 1, 0 => by
    have := lv_low a b (i + 1) (j + 1)
    rw [lv_i0, lv_i0]; omega
  | i + 1, j + 1, k + 1 => by
    have hA := lv_tri a b c i (j + 1) (k + 1)
    have hA' := lv_tri a b c (i + 1) (j + 1) k
    have hBB := lv_tri a b c i j k
    have hBC := lv_tri a b c i j (k + 1)
    have hCB := lv_tri a b c (i + 1) j k
    have hCC := lv_tri a b c (i + 1) j (k + 1)
    have e1 := lv_ss a b i j
    have e2 := lv_ss b c j k
    have e3 := lv_ss a c i k
    have hne : (if a.getD i 0 ≠ c.getD k 0 then (1 : Int) else 0) ≤ (if a.getD i 0 ≠ b.getD j 0 then 1 else 0) + (if b.getD j 0 ≠ c.getD k 0 then 1 else 0) := by
      by_cases h1 : a.getD i 0 = b.getD j 0
      · by_cases h2 : b.getD j 0 = c.getD k 0
        · rw [if_neg (by simpa using h1.trans h2), if_neg (by simpa using h1), if_neg (by simpa using h2)]; omega
        · rw [if_pos (show b.getD j 0 ≠ c.getD k 0 from h2)]; repeat' split
          all_goals omega
      · rw [if_pos (show a.getD i 0 ≠ b.getD j 0 from h1)]; repeat' split
        all_goals omega
    have b1 : (0 : Int) ≤ (if a.getD i 0 ≠ b.getD j 0 then 1 else 0) := by split <;> omega
    have b2 : (0 : Int) ≤ (if b.getD j 0 ≠ c.getD k 0 then 1 else 0) := by split <;> omega
    generalize (if a.getD i 0 ≠ c.getD k 0 then (1 : Int) else 0) = x at *
    generalize (if a.getD i 0 ≠ b.getD j 0 then (1 : Int) else 0) = y at *
    generalize (if b.getD j 0 ≠ c.getD k 0 then (1 : Int) else 0) = z at *
    omega
termination_by i j k => (i, j, k)
theorem lv_zero (a b : List UInt8) : ∀ i k : Nat, lv a b i k = 0 → i = k ∧ ∀ j, j < i → a.getD j 0 = b.getD j 0
  | 0, k, h => by
    rw [lv_0] at h
    exact ⟨by omega, fun j hj => by omega⟩
  | i + 1, 0, h => by rw [lv_s0] at h; omega
  | i + 1, k + 1, h => by
    have h1 := lv_bd a b i k
    have h2 := lv_bd a b i (k + 1)
    have h3 := lv_bd a b (i + 1) k
    rw [lv_ss] at h
    have he : a.getD i 0 = b.getD k 0 := by
      by_cases hc : a.getD i 0 = b.getD k 0
      · exact hc
      · rw [if_pos (show a.getD i 0 ≠ b.getD k 0 from hc)] at h; omega
    rw [if_neg (by simpa using he)] at h
    obtain ⟨e, f⟩ := lv_zero a b i k (by omega)
    subst e
    refine ⟨rfl, fun j hj => ?_⟩
    by_cases hji : j = i
    · subst hji; exact he
    · exact f j (by omega)
termination_by i k => (i, k)
theorem lv_same (a : List UInt8) : ∀ i : Nat, lv a a i i = 0
  | 0 => by rw [lv_0]; rfl
  | i + 1 => by
    have h := lv_same a i
    have h0 := (lv_bd a a (i + 1) (i + 1)).1
    rw [lv_ss] at h0 ⊢
    rw [if_neg (by simp)] at h0 ⊢
    omega
theorem dist_sym (a b : List UInt8) : dist a b = dist b a := lv_sym a b _ _
theorem dist_tri (a b c : List UInt8) : dist a c ≤ dist a b + dist b c := lv_tri a b c _ _ _
theorem dist_zero {a b : List UInt8} : dist a b = 0 ↔ a = b := by
  constructor
  · intro h
    obtain ⟨e, f⟩ := lv_zero a b _ _ h
    refine List.ext_getElem e fun j h1 h2 => ?_
    have := f j h1
    simpa [h1, h2] using this
  · rintro rfl; exact lv_same a _
theorem dist_bd (a b : List UInt8) : 0 ≤ dist a b ∧ dist a b ≤ a.length + b.length := lv_bd a b _ _
end Go.Proofs.YtmpgokijlikddaaGreatDoor
