/- A phrase is found from its text, and a text from the phrase that it was split into: plain laws. No condition. -/
import Derived.Test.YtmpgokijlikddaaGreatDoorSplit
namespace Go.Proofs.YtmpgokijlikddaaGreatDoor
open Go.RowKit
theorem join_two (x y sep : List UInt8) (r : List (List UInt8)) : Lib.join (x :: y :: r) sep = x ++ (sep ++ Lib.join (y :: r) sep) := by
  rw [Lib.join_cons, Lib.join_cons]
  simp [Lib.joinTail]
theorem join_hd (c s : UInt8) (x : List UInt8) (r : List (List UInt8)) : Lib.join ((c :: x) :: r) [s] = c :: Lib.join (x :: r) [s] := by
  rw [Lib.join_cons, Lib.join_cons]; rfl
theorem join_spl (s : UInt8) : ∀ l : List UInt8, Lib.join (spl s l) [s] = l
  | [] => by simp [spl, Lib.join_one]
  | c :: l => by
    have ih := join_spl s l
    cases e : spl s l with
    | nil => exact absurd e (spl_ne s l)
    | cons h t =>
      rw [e] at ih
      by_cases hc : c = s
      · subst hc
        rw [spl, if_pos rfl, e, join_two, ih]; rfl
      · rw [spl_c hc e, join_hd, ih]
theorem spl_join (s : UInt8) : ∀ xs : List (List UInt8), xs ≠ [] → (∀ w ∈ xs, ∀ c ∈ w, c ≠ s) → spl s (Lib.join xs [s]) = xs
  | [], h, _ => absurd rfl h
  | [x], _, h => by rw [Lib.join_one]; exact spl_end s x (h x (List.mem_cons_self ..))
  | x :: y :: r, _, h => by
    rw [join_two]
    show spl s (x ++ s :: Lib.join (y :: r) [s]) = _
    rw [spl_hit s x _ (h x (List.mem_cons_self ..)), spl_join s (y :: r) (by simp) fun w hw => h w (List.mem_cons_of_mem _ hw)]
theorem word_sp {x : List UInt8} (h : wordB x = true) : ∀ c ∈ x, c ≠ 32 := by
  intro c hc e
  unfold wordB smallB at h
  rw [Bool.and_eq_true] at h
  have := List.all_eq_true.1 h.1 c hc
  rw [e] at this
  revert this; decide
theorem ph_all {xs : List (List UInt8)} (h : phB xs = true) : ∀ w ∈ xs, wordB w = true := by
  unfold phB at h
  rw [Bool.and_eq_true] at h
  exact List.all_eq_true.1 h.1
/-- a phrase is found from its text -/
theorem ph_spl {xs : List (List UInt8)} (h : phB xs = true) : spF (Lib.join xs [32]) = (xs, 0) := by
  have ha := ph_all h
  cases xs with
  | nil => rfl
  | cons x r =>
    have e := spl_join 32 (x :: r) (by simp) fun w hw => word_sp (ha w hw)
    have hne : Lib.join (x :: r) [32] ≠ [] := by
      intro e0
      rw [e0] at e
      have : x = [] := by
        have e1 : [[]] = x :: r := e
        injection e1 with e2 _; exact e2.symm
      have hp := word_pos (ha x (List.mem_cons_self ..))
      rw [this] at hp
      exact absurd hp (by decide)
    unfold spF
    rw [if_neg hne, e, if_pos h]
/-- the text of the phrase that a text was split into is the text -/
theorem sp_ph {x : List UInt8} (h : (spF x).2 = 0) : phF (spF x).1 = (x, 0) := by
  unfold spF at h ⊢
  split
  · rename_i hx
    subst hx
    rfl
  · rename_i hx
    rw [if_neg hx] at h
    split
    · rename_i hp
      unfold phF
      rw [if_pos hp, join_spl]
    · rename_i hp
      rw [if_neg hp] at h
      exact absurd h (by decide)
theorem ph_T {xs : List (List UInt8)} (h : phB xs = true) : phF xs = (Lib.join xs [32], 0) := by unfold phF; rw [if_pos h]
theorem ph_F {xs : List (List UInt8)} (h : phB xs = false) : phF xs = ([], 1) := by unfold phF; rw [if_neg (by simp [h])]
theorem join_le {xs : List (List UInt8)} (h : phB xs = true) : (Lib.join xs [32]).length ≤ 1260 := by
  obtain ⟨h1, h2⟩ := ph_len h
  have := join_len1 xs 32 20 h2 xs.length (Nat.le_refl _)
  rw [List.take_length] at this
  omega
end Go.Proofs.YtmpgokijlikddaaGreatDoor
