/- The normal form of a word: the last letter, plainly. No condition. -/
import Derived.Test.YtmpgokijlikddaaGreatDoorNorm
namespace Go.Proofs.YtmpgokijlikddaaGreatDoor
theorem last_at {l : List UInt8} (h : 0 < l.length) : l.getLast? = some (l.getD (l.length - 1) 0) := by
  rw [List.getLast?_eq_getElem?, List.getD_eq_getElem?_getD, List.getElem?_eq_getElem (by omega)]; rfl
theorem dropE_T {l : List UInt8} (h : 2 < l.length) (e : l.getD (l.length - 1) 0 = 101) : dropE l = l.take (l.length - 1) := by
  unfold dropE
  rw [if_pos ⟨h, by rw [last_at (by omega), e]⟩, List.dropLast_eq_take]
theorem dropE_F1 {l : List UInt8} (h : ¬ 2 < l.length) : dropE l = l := by
  unfold dropE; rw [if_neg (fun k => h k.1)]
theorem dropE_F2 {l : List UInt8} (h : 0 < l.length) (e : ¬ l.getD (l.length - 1) 0 = 101) : dropE l = l := by
  unfold dropE
  rw [if_neg]
  rintro ⟨_, k⟩
  rw [last_at h] at k
  injection k with k
  exact e k
theorem drop_cases (m : List UInt8) (hp : 0 < m.length) : (¬ 2 < m.length ∧ dropE m = m) ∨ (2 < m.length ∧ ¬ m.getD (m.length - 1) 0 = 101 ∧ dropE m = m) ∨ (2 < m.length ∧ m.getD (m.length - 1) 0 = 101 ∧ dropE m = m.take (m.length - 1)) := by
  by_cases h : 2 < m.length
  · by_cases e : m.getD (m.length - 1) 0 = 101
    · exact .inr (.inr ⟨h, e, dropE_T h e⟩)
    · exact .inr (.inl ⟨h, e, dropE_F2 hp e⟩)
  · exact .inl ⟨h, dropE_F1 h⟩
theorem ddK_pos (l : List UInt8) : ∀ k, 0 < k → 0 < (ddK l k).length
  | 0, h => absurd h (Nat.lt_irrefl 0)
  | k + 1, _ => by
    unfold ddK
    split
    · simp
    · rename_i h
      have : 0 < k := by
        rcases Nat.eq_zero_or_pos k with h0 | h0
        · exact absurd (.inl h0) h
        · exact h0
      exact ddK_pos l k this
theorem wdL_pos {x : List UInt8} (h : 0 < x.length) : 0 < (wdL x).length := by
  have := (wdL_len x).1; omega
theorem ddK_step {l : List UInt8} {k : Nat} (h : k = 0 ∨ l.getD k 0 ≠ l.getD (k - 1) 0) : ddK l (k + 1) = ddK l k ++ [l.getD k 0] := by rw [ddK, if_pos h]
theorem ddK_stay {l : List UInt8} {k : Nat} (h0 : 0 < k) (h : l.getD k 0 = l.getD (k - 1) 0) : ddK l (k + 1) = ddK l k := by
  rw [ddK, if_neg]
  rintro (a | a)
  · omega
  · exact a h
theorem wdL_take_le {x : List UInt8} (hx : x.length ≤ 20) (k : Nat) : (wdL (x.take k)).length ≤ 40 := by
  have := (wdL_len (x.take k)).2
  rw [List.length_take] at this; omega
theorem wdB_else {c : UInt8} (h1 : ¬ c = 118) (h2 : ¬ c = 106) (h3 : ¬ c = 121) (h4 : ¬ c = 119) : wdB c = [c] := by
  unfold wdB; rw [if_neg h1, if_neg h2, if_neg h3, if_neg h4]
theorem ne_nat {c d : UInt8} (h : ¬ c = d) : ((c.toNat : Int) == (d.toNat : Int)) = false := by
  have : (c.toNat : Int) ≠ (d.toNat : Int) := fun e => h (UInt8.toNat_inj.1 (by omega))
  simpa using this
end Go.Proofs.YtmpgokijlikddaaGreatDoor
