/- Bytes replaced one by one: plain laws on lists of bytes. No condition. -/
import Derived.Lib.Replace
import Derived.Lib.Strings
import Derived.Lib.CountLaws
namespace Go.Proofs.YtmpgokijlikddaaGreatDoor
/-- x replaced by y -/
def swp (x y : UInt8) (l : List UInt8) : List UInt8 := l.map fun c => if c = x then y else c
theorem swp_len (x y : UInt8) (l : List UInt8) : (swp x y l).length = l.length := by simp [swp]
theorem swp_cons (x y c : UInt8) (l : List UInt8) : swp x y (c :: l) = (if c = x then y else c) :: swp x y l := rfl
theorem idx_eq (x : UInt8) (s : List UInt8) : Lib.index (x :: s) [x] = 0 := by simp [Lib.index, List.isPrefixOf]
theorem idx_ne {x c : UInt8} (h : c ≠ x) (s : List UInt8) : Lib.index (c :: s) [x] = if Lib.index s [x] == -1 then -1 else Lib.index s [x] + 1 := by
  have : ([x] : List UInt8).isPrefixOf (c :: s) = false := by simp [List.isPrefixOf]; exact fun e => h e.symm
  rw [Lib.index, this]; rfl
theorem repK (x y : UInt8) : ∀ (s : List UInt8) (k : Nat), Lib.count s [x] ≤ k → Lib.replaceK [x] [y] k s = swp x y s
  | [], k, _ => by cases k <;> simp [Lib.replaceK, Lib.index, swp]
  | c :: s, k, h => by
    by_cases hc : c = x
    · subst hc
      rw [Lib.count_cons_eq] at h
      obtain ⟨k', rfl⟩ : ∃ k', k = k' + 1 := ⟨k - 1, by omega⟩
      rw [Lib.replaceK_hit _ _ _ _ 0 (idx_eq c s), swp_cons, if_pos rfl, ← repK c y s k' (by omega)]
      simp
    · rw [Lib.count_cons_ne c x s hc] at h
      have ih := repK x y s k h
      rw [swp_cons, if_neg hc, ← ih]
      cases k with
      | zero => rfl
      | succ k =>
        have hi := idx_ne hc s
        by_cases hm : Lib.index s [x] = -1
        · rw [hm] at hi
          simp only [Lib.replaceK, hm, hi]
          rfl
        · have hge := Lib.index_ge s [x]
          obtain ⟨i, hi'⟩ : ∃ i : Nat, Lib.index s [x] = i := ⟨(Lib.index s [x]).toNat, by omega⟩
          rw [hi'] at hi
          have hi2 : Lib.index (c :: s) [x] = ((i + 1 : Nat) : Int) := by
            rw [hi, if_neg (by simp)]; omega
          rw [Lib.replaceK_hit _ _ _ _ _ hi2, Lib.replaceK_hit _ _ _ _ _ hi']
          simp
theorem rep_swp (x y : UInt8) (h : x ≠ y) (s : List UInt8) : Lib.replaceAll s [x] [y] = swp x y s := by
  unfold Lib.replaceAll Lib.replace
  rw [if_neg (by simpa using h)]
  exact repK x y s _ (by unfold Lib.replaceNum; simp)
/-- a last x replaced by y -/
def lastX (x y : UInt8) (l : List UInt8) : List UInt8 := if l.getLast? = some x then l.dropLast ++ [y] else l
theorem lastX_T {x y : UInt8} {l : List UInt8} (h : l.getLast? = some x) : lastX x y l = l.dropLast ++ [y] := by unfold lastX; rw [if_pos h]
theorem lastX_F {x y : UInt8} {l : List UInt8} (h : l.getLast? ≠ some x) : lastX x y l = l := by unfold lastX; rw [if_neg h]
theorem suf_one (x : UInt8) (l : List UInt8) : Lib.hasSuffix l [x] = decide (l.getLast? = some x) := by
  unfold Lib.hasSuffix
  rw [Bool.eq_iff_iff, List.isSuffixOf_iff_suffix, decide_eq_true_iff]
  constructor
  · rintro ⟨t, rfl⟩; simp
  · intro h
    obtain ⟨ys, hy⟩ := List.getLast?_eq_some_iff.1 h
    exact ⟨ys, hy.symm⟩
theorem trim_one (x : UInt8) (l : List UInt8) (h : Lib.hasSuffix l [x] = true) : Lib.trimSuffix l [x] = l.dropLast := by
  unfold Lib.trimSuffix
  rw [if_pos h, List.dropLast_eq_take]; rfl
theorem lastX_len (x y : UInt8) (l : List UInt8) : (lastX x y l).length = l.length := by
  unfold lastX
  split
  · rename_i h
    have : l ≠ [] := by rintro rfl; simp at h
    have := List.length_pos_iff.2 this
    simp; omega
  · rfl
end Go.Proofs.YtmpgokijlikddaaGreatDoor
