/- The distance of two texts, row by row: plain functions on lists of bytes. No condition. -/
namespace Go.Proofs.YtmpgokijlikddaaGreatDoor
/-- the distance of the first i bytes of a and the first k of b -/
def lv (a b : List UInt8) : Nat → Nat → Int
  | 0, k => k
  | i + 1, 0 => i + 1
  | i + 1, k + 1 => min (lv a b i k + (if a.getD i 0 ≠ b.getD k 0 then 1 else 0)) (min (lv a b i (k + 1) + 1) (lv a b (i + 1) k + 1))
termination_by i k => (i, k)
theorem lv_0 (a b : List UInt8) (k : Nat) : lv a b 0 k = k := by rw [lv]
theorem lv_s0 (a b : List UInt8) (i : Nat) : lv a b (i + 1) 0 = i + 1 := by rw [lv]
theorem lv_ss (a b : List UInt8) (i k : Nat) : lv a b (i + 1) (k + 1) = min (lv a b i k + (if a.getD i 0 ≠ b.getD k 0 then 1 else 0)) (min (lv a b i (k + 1) + 1) (lv a b (i + 1) k + 1)) := by rw [lv]
theorem lv_i0 (a b : List UInt8) (i : Nat) : lv a b i 0 = i := by
  cases i with
  | zero => rw [lv_0]
  | succ i => rw [lv_s0]; omega
theorem lv_bd (a b : List UInt8) : ∀ i k : Nat, 0 ≤ lv a b i k ∧ lv a b i k ≤ i + k
  | 0, k => by rw [lv_0]; omega
  | i + 1, 0 => by rw [lv_s0]; omega
  | i + 1, k + 1 => by
    have h1 := lv_bd a b i k
    have h2 := lv_bd a b i (k + 1)
    have h3 := lv_bd a b (i + 1) k
    rw [lv_ss]
    split <;> omega
termination_by i k => (i, k)
/-- the row i -/
def rowA (a b : List UInt8) (n i : Nat) : List Int := (List.range (n + 1)).map fun j => lv a b i j
/-- the row i + 1 up to place k, behind it the row i -/
def rowM (a b : List UInt8) (n i k : Nat) : List Int := (List.range (n + 1)).map fun j => if j ≤ k then lv a b (i + 1) j else lv a b i j
/-- the row i + 1 up to place k -/
def rowN (a b : List UInt8) (i k : Nat) : List Int := (List.range (k + 1)).map fun j => lv a b (i + 1) j
theorem rowA_len (a b : List UInt8) (n i : Nat) : (rowA a b n i).length = n + 1 := by simp [rowA]
theorem rowM_len (a b : List UInt8) (n i k : Nat) : (rowM a b n i k).length = n + 1 := by simp [rowM]
theorem rowN_len (a b : List UInt8) (i k : Nat) : (rowN a b i k).length = k + 1 := by simp [rowN]
theorem rowA_get (a b : List UInt8) (n i j : Nat) (h : j ≤ n) : (rowA a b n i)[j]! = lv a b i j := by
  unfold rowA; rw [getElem!_pos _ _ (by simp; omega)]; simp
theorem rowN_get (a b : List UInt8) (i k j : Nat) (h : j ≤ k) : (rowN a b i k)[j]! = lv a b (i + 1) j := by
  unfold rowN; rw [getElem!_pos _ _ (by simp; omega)]; simp
theorem rowM_lo (a b : List UInt8) (n i k j : Nat) (h : j ≤ k) (hn : j ≤ n) : (rowM a b n i k)[j]! = lv a b (i + 1) j := by
  unfold rowM; rw [getElem!_pos _ _ (by simp; omega)]; simp [h]
theorem rowM_hi (a b : List UInt8) (n i k j : Nat) (h : k < j) (hn : j ≤ n) : (rowM a b n i k)[j]! = lv a b i j := by
  unfold rowM; rw [getElem!_pos _ _ (by simp; omega)]; simp; omega
theorem rowM_set (a b : List UInt8) (n i k : Nat) : (rowM a b n i k).set (k + 1) (lv a b (i + 1) (k + 1)) = rowM a b n i (k + 1) := by
  apply List.ext_getElem (by simp [rowM])
  intro j h1 h2
  simp only [rowM, List.getElem_set, List.getElem_map, List.getElem_range]
  by_cases he : k + 1 = j
  · subst he; simp
  · rw [if_neg he]
    by_cases hl : j ≤ k
    · rw [if_pos hl, if_pos (by omega)]
    · rw [if_neg hl, if_neg (by omega)]
theorem rowA_set (a b : List UInt8) (n i : Nat) : (rowA a b n i).set 0 (i + 1) = rowM a b n i 0 := by
  apply List.ext_getElem (by simp [rowM, rowA])
  intro j h1 h2
  simp only [rowM, rowA, List.getElem_set, List.getElem_map, List.getElem_range]
  by_cases he : j = 0
  · subst he; simp [lv_s0]
  · rw [if_neg (by omega), if_neg (by omega)]
theorem rowM_end (a b : List UInt8) (n i : Nat) : rowM a b n i n = rowA a b n (i + 1) := by
  apply List.ext_getElem (by simp [rowM, rowA])
  intro j h1 h2
  simp only [rowM, rowA, List.length_map, List.length_range, List.getElem_map, List.getElem_range] at h1 ⊢
  rw [if_pos (by omega)]
theorem rowN_end (a b : List UInt8) (n i : Nat) : rowN a b i n = rowA a b n (i + 1) := rfl
theorem rowN_snoc (a b : List UInt8) (i k : Nat) : rowN a b i k ++ [lv a b (i + 1) (k + 1)] = rowN a b i (k + 1) := by
  unfold rowN; rw [List.range_succ (n := k + 1), List.map_append]; rfl
theorem rowN_0 (a b : List UInt8) (i : Nat) : rowN a b i 0 = [(i : Int) + 1] := by
  simp [rowN, lv_s0]
/-- the numbers 0, 1, .. -/
def upto (k : Nat) : List Int := (List.range k).map fun (j : Nat) => (j : Int)
theorem upto_len (k : Nat) : (upto k).length = k := by simp [upto]
theorem upto_snoc (k : Nat) : upto k ++ [(k : Int)] = upto (k + 1) := by unfold upto; rw [List.range_succ, List.map_append]; rfl
theorem upto_row (a b : List UInt8) (n : Nat) : upto (n + 1) = rowA a b n 0 := by
  unfold upto rowA; simp [lv_0]
/-- the distance -/
def dist (a b : List UInt8) : Int := lv a b a.length b.length
theorem row_last (a b : List UInt8) : (rowA a b b.length a.length)[b.length]! = dist a b := rowA_get a b _ _ _ (Nat.le_refl _)
theorem lv_min (a b : List UInt8) (i k : Nat) (c : Int) (hc : c = lv a b i k + (if a.getD i 0 ≠ b.getD k 0 then 1 else 0)) : min (min c (lv a b i (k + 1) + 1)) (lv a b (i + 1) k + 1) = lv a b (i + 1) (k + 1) := by
  rw [lv_ss, hc]; omega
end Go.Proofs.YtmpgokijlikddaaGreatDoor
