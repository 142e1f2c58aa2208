/- Words in common and the nearest word, plainly. No condition. -/
import Derived.Test.YtmpgokijlikddaaGreatDoorNorm
import Derived.Test.YtmpgokijlikddaaGreatDoorLevP
namespace Go.Proofs.YtmpgokijlikddaaGreatDoor
abbrev Wd := List UInt8
/-- how many words ahead in two lists are alike -/
def cpl : List Wd → List Wd → Nat
  | x :: l, y :: m => if nmL x = nmL y then cpl l m + 1 else 0
  | _, _ => 0
theorem cpl_nil_r (l : List Wd) : cpl l [] = 0 := by cases l <;> rfl
theorem cpl_sym : ∀ l m : List Wd, cpl l m = cpl m l
  | [], m => by rw [cpl_nil_r]; rfl
  | x :: l, [] => rfl
  | x :: l, y :: m => by
    have ih := cpl_sym l m
    unfold cpl
    by_cases h : nmL x = nmL y
    · rw [if_pos h, if_pos h.symm, ih]
    · rw [if_neg h, if_neg (fun e => h e.symm)]
theorem cpl_len : ∀ l m : List Wd, cpl l m ≤ l.length
  | [], m => Nat.zero_le _
  | x :: l, [] => Nat.zero_le _
  | x :: l, y :: m => by
    have ih := cpl_len l m
    unfold cpl; split
    · simp only [List.length_cons]; omega
    · omega
theorem cpl_own : ∀ l : List Wd, cpl l l = l.length
  | [] => rfl
  | x :: l => by
    have ih := cpl_own l
    unfold cpl; rw [if_pos rfl, ih]; rfl
theorem cpl_T (a b : List Wd) (i k : Nat) (hi : i < a.length) (hk : k < b.length) (h : nmL (a.getD i []) = nmL (b.getD k [])) : cpl (a.drop i) (b.drop k) = cpl (a.drop (i + 1)) (b.drop (k + 1)) + 1 := by
  have e1 : a.getD i [] = a[i] := by simp [hi]
  have e2 : b.getD k [] = b[k] := by simp [hk]
  rw [e1, e2] at h
  rw [List.drop_eq_getElem_cons hi, List.drop_eq_getElem_cons hk]
  conv => lhs; unfold cpl
  rw [if_pos h]
theorem cpl_F (a b : List Wd) (i k : Nat) (h : i < a.length → k < b.length → ¬ nmL (a.getD i []) = nmL (b.getD k [])) : cpl (a.drop i) (b.drop k) = 0 := by
  by_cases hi : i < a.length
  · by_cases hk : k < b.length
    · have h := h hi hk
      have e1 : a.getD i [] = a[i] := by simp [hi]
      have e2 : b.getD k [] = b[k] := by simp [hk]
      rw [e1, e2] at h
      rw [List.drop_eq_getElem_cons hi, List.drop_eq_getElem_cons hk]
      unfold cpl
      rw [if_neg h]
    · rw [List.drop_of_length_le (l := b) (by omega), cpl_nil_r]
  · rw [List.drop_of_length_le (l := a) (by omega)]; rfl
/-- the most, of the places k of b beside place i of a -/
def sh2 (a b : List Wd) (i m : Nat) : Nat → Nat
  | 0 => m
  | k + 1 => max (sh2 a b i m k) (cpl (a.drop i) (b.drop k))
/-- the most, of the places i of a -/
def sh1 (a b : List Wd) : Nat → Nat
  | 0 => 0
  | i + 1 => sh2 a b i (sh1 a b i) b.length
def shN (a b : List Wd) : Nat := sh1 a b a.length
theorem sh2_le (a b : List Wd) (i m M : Nat) : ∀ k, sh2 a b i m k ≤ M ↔ m ≤ M ∧ ∀ j, j < k → cpl (a.drop i) (b.drop j) ≤ M
  | 0 => by unfold sh2; exact ⟨fun h => ⟨h, fun j hj => by omega⟩, fun h => h.1⟩
  | k + 1 => by
    have ih := sh2_le a b i m M k
    unfold sh2
    rw [Nat.max_le, ih]
    constructor
    · rintro ⟨⟨h1, h2⟩, h3⟩
      refine ⟨h1, fun j hj => ?_⟩
      by_cases e : j = k
      · subst e; exact h3
      · exact h2 j (by omega)
    · rintro ⟨h1, h2⟩
      exact ⟨⟨h1, fun j hj => h2 j (by omega)⟩, h2 k (by omega)⟩
theorem sh1_le (a b : List Wd) (M : Nat) : ∀ n, sh1 a b n ≤ M ↔ ∀ i, i < n → ∀ j, j < b.length → cpl (a.drop i) (b.drop j) ≤ M
  | 0 => by unfold sh1; exact ⟨fun _ i hi => by omega, fun _ => Nat.zero_le _⟩
  | n + 1 => by
    have ih := sh1_le a b M n
    unfold sh1
    rw [sh2_le, ih]
    constructor
    · rintro ⟨h1, h2⟩ i hi
      by_cases e : i = n
      · subst e; exact h2
      · exact h1 i (by omega)
    · intro h
      exact ⟨fun i hi => h i (by omega), h n (by omega)⟩
theorem shN_le (a b : List Wd) (M : Nat) : shN a b ≤ M ↔ ∀ i, i < a.length → ∀ j, j < b.length → cpl (a.drop i) (b.drop j) ≤ M := sh1_le a b M _
theorem shN_sym (a b : List Wd) : shN a b = shN b a := by
  refine Nat.le_antisymm ((shN_le a b _).2 fun i hi j hj => ?_) ((shN_le b a _).2 fun i hi j hj => ?_)
  · rw [cpl_sym]; exact (shN_le b a _).1 (Nat.le_refl _) j hj i hi
  · rw [cpl_sym]; exact (shN_le a b _).1 (Nat.le_refl _) j hj i hi
theorem shN_len (a b : List Wd) : shN a b ≤ a.length := (shN_le a b _).2 fun i hi j hj => by
  have := cpl_len (a.drop i) (b.drop j)
  rw [List.length_drop] at this; omega
theorem shN_min (a b : List Wd) : shN a b ≤ min a.length b.length := by
  have h1 := shN_len a b
  have h2 := shN_len b a
  rw [shN_sym b a] at h2; omega
theorem shN_own (a : List Wd) : shN a a = a.length := by
  refine Nat.le_antisymm (shN_len a a) ?_
  cases a with
  | nil => exact Nat.zero_le _
  | cons x l =>
    have := (shN_le (x :: l) (x :: l) _).1 (Nat.le_refl _) 0 (by simp) 0 (by simp)
    rw [List.drop_zero, cpl_own] at this
    exact this
theorem sh1_bd (a b : List Wd) (n : Nat) : sh1 a b n ≤ a.length := (sh1_le a b _ n).2 fun i _ j _ => by
  have := cpl_len (a.drop i) (b.drop j)
  rw [List.length_drop] at this; omega
theorem sh2_bd (a b : List Wd) (i m k : Nat) (hm : m ≤ a.length) : sh2 a b i m k ≤ a.length := (sh2_le a b i m _ k).2 ⟨hm, fun j _ => by
  have := cpl_len (a.drop i) (b.drop j)
  rw [List.length_drop] at this; omega⟩
/-- the nearest of the first k words, and how far -/
def nrK (s : Wd) (xs : List Wd) (most : Int) : Nat → Int × Int
  | 0 => (-1, most + 1)
  | k + 1 => if dist (nmL s) (nmL (xs.getD k [])) < (nrK s xs most k).2 then ((k : Int), dist (nmL s) (nmL (xs.getD k []))) else nrK s xs most k
theorem nrK_T {s : Wd} {xs : List Wd} {most : Int} {k : Nat} (h : dist (nmL s) (nmL (xs.getD k [])) < (nrK s xs most k).2) : nrK s xs most (k + 1) = ((k : Int), dist (nmL s) (nmL (xs.getD k []))) := by rw [nrK, if_pos h]
theorem nrK_F {s : Wd} {xs : List Wd} {most : Int} {k : Nat} (h : ¬ dist (nmL s) (nmL (xs.getD k [])) < (nrK s xs most k).2) : nrK s xs most (k + 1) = nrK s xs most k := by rw [nrK, if_neg h]
theorem nrK_bd {s : Wd} {xs : List Wd} {most : Int} (hm : 0 ≤ most) : ∀ k, (-1 ≤ (nrK s xs most k).1 ∧ (nrK s xs most k).1 < k) ∧ (0 ≤ (nrK s xs most k).2 ∧ (nrK s xs most k).2 ≤ most + 1) ∧ (0 ≤ (nrK s xs most k).1 → (nrK s xs most k).2 ≤ most)
  | 0 => by unfold nrK; refine ⟨⟨by omega, by simp⟩, ⟨by simp; omega, by simp⟩, fun h => by simp at h⟩
  | k + 1 => by
    have ih := nrK_bd (s := s) (xs := xs) hm k
    have h0 := (dist_bd (nmL s) (nmL (xs.getD k []))).1
    by_cases h : dist (nmL s) (nmL (xs.getD k [])) < (nrK s xs most k).2
    · rw [nrK_T h]; dsimp only; omega
    · rw [nrK_F h]; omega
end Go.Proofs.YtmpgokijlikddaaGreatDoor
