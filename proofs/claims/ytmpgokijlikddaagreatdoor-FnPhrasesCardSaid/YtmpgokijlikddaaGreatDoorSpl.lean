/- A text split at a byte: plain laws on lists of bytes. No condition. -/
import Derived.Test.YtmpgokijlikddaaGreatDoorRepl
import Derived.Lib.Split
import Derived.Lib.SplitLaws
namespace Go.Proofs.YtmpgokijlikddaaGreatDoor
def spl (x : UInt8) : List UInt8 → List (List UInt8)
  | [] => [[]]
  | c :: l => if c = x then [] :: spl x l else match spl x l with
    | [] => [[c]]
    | h :: t => (c :: h) :: t
theorem spl_ne (x : UInt8) : ∀ l, spl x l ≠ []
  | [] => by simp [spl]
  | c :: l => by
    unfold spl
    split
    · simp
    · split <;> simp
theorem spl_c {x c : UInt8} {l h : List UInt8} {t : List (List UInt8)} (hc : c ≠ x) (e : spl x l = h :: t) : spl x (c :: l) = (c :: h) :: t := by
  rw [spl, if_neg hc, e]
theorem spl_end (x : UInt8) : ∀ l : List UInt8, (∀ c ∈ l, c ≠ x) → spl x l = [l]
  | [], _ => rfl
  | c :: l, h => spl_c (h c (List.mem_cons_self ..)) (spl_end x l fun d hd => h d (List.mem_cons_of_mem _ hd))
theorem spl_hit (x : UInt8) : ∀ (m l : List UInt8), (∀ c ∈ m, c ≠ x) → spl x (m ++ x :: l) = m :: spl x l
  | [], l, _ => by simp [spl]
  | c :: m, l, h => spl_c (h c (List.mem_cons_self ..)) (spl_hit x m l fun d hd => h d (List.mem_cons_of_mem _ hd))
theorem splK (x : UInt8) : ∀ (s : List UInt8) (k : Nat), Lib.count s [x] ≤ k → Lib.splitK [x] 0 k s = spl x s
  | [], k, _ => by cases k <;> simp [Lib.splitK, Lib.index, spl]
  | c :: s, k, h => by
    by_cases hc : c = x
    · subst hc
      rw [Lib.count_cons_eq] at h
      obtain ⟨k', rfl⟩ : ∃ k', k = k' + 1 := ⟨k - 1, by omega⟩
      have ih := splK c s k' (by omega)
      rw [spl, if_pos rfl, ← ih]
      simp [Lib.splitK, idx_eq]
    · rw [Lib.count_cons_ne c x s hc] at h
      have ih := splK x s k h
      cases k with
      | zero =>
        have e : spl x s = [s] := ih.symm
        rw [spl_c hc e]; rfl
      | succ k =>
        have hi := idx_ne hc s
        by_cases hm : Lib.index s [x] = -1
        · rw [hm] at hi
          have e : spl x s = [s] := by rw [← ih]; simp [Lib.splitK, hm]
          rw [spl_c hc e]
          simp [Lib.splitK, hi]
        · have hge := Lib.index_ge s [x]
          obtain ⟨i, hi'⟩ : ∃ i : Nat, Lib.index s [x] = i := ⟨(Lib.index s [x]).toNat, by omega⟩
          rw [hi'] at hi
          have hi2 : Lib.index (c :: s) [x] = ((i + 1 : Nat) : Int) := by
            rw [hi, if_neg (by simp)]; omega
          have m1 : ¬ (Lib.index s [x] == -1) = true := fun e => hm (beq_iff_eq.1 e)
          have m2 : ¬ (Lib.index (c :: s) [x] == -1) = true := fun e => by have := beq_iff_eq.1 e; omega
          have e1 : spl x s = s.take i :: Lib.splitK [x] 0 k (s.drop (i + 1)) := by
            rw [← ih, Lib.splitK, if_neg m1, hi']; simp
          rw [spl_c hc e1, Lib.splitK, if_neg m2, hi2]
          simp
theorem count_zero (x : UInt8) (s : List UInt8) : Lib.splitK [x] 0 (Lib.count s [x]) s = spl x s := splK x s _ (Nat.le_refl _)
theorem spl_len (x : UInt8) : ∀ l : List UInt8, (spl x l).length ≤ l.length + 1
  | [] => by simp [spl]
  | c :: l => by
    have ih := spl_len x l
    unfold spl
    split
    · simp; omega
    · split
      · simp
      · rename_i h t e
        rw [e] at ih
        simp at ih ⊢; omega
theorem spl_each (x : UInt8) : ∀ (l : List UInt8) (w : List UInt8), w ∈ spl x l → w.length ≤ l.length
  | [], w, h => by simp [spl] at h; subst h; simp
  | c :: l, w, h => by
    unfold spl at h
    split at h
    · rcases List.mem_cons.1 h with rfl | h
      · simp
      · have := spl_each x l w h; simp; omega
    · split at h
      · rcases List.mem_cons.1 h with rfl | h
        · simp
        · cases h
      · rename_i h' t e
        rcases List.mem_cons.1 h with rfl | h
        · have := spl_each x l h' (by rw [e]; exact List.mem_cons_self ..); simp; omega
        · have := spl_each x l w (by rw [e]; exact List.mem_cons_of_mem _ h); simp; omega
end Go.Proofs.YtmpgokijlikddaaGreatDoor
