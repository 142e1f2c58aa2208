/- What is read back from a numeral, from its old form and from an ordinal: plain laws. No condition. -/
import Derived.Test.YtmpgokijlikddaaGreatDoorNumText
import Derived.Test.YtmpgokijlikddaaGreatDoorOldNum
import Derived.Test.YtmpgokijlikddaaGreatDoorOrd2
import Derived.Test.YtmpgokijlikddaaGreatDoorNmP
import Derived.Test.YtmpgokijlikddaaGreatDoorCountF
namespace Go.Proofs.YtmpgokijlikddaaGreatDoor
open Go.RowKit
def nlChk (k : Nat) : Bool := decide (sumS (formL k false) = k) && decide (sumS (formL k true) = k) && decide (pl (formL k false) = formL k false) && decide (pl (lastX 105 106 (swp 118 117 (formL k true))) = formL k true)
set_option maxRecDepth 100000 in
theorem nlChk_1 : (List.range' 1 1000).all nlChk = true := by decide +kernel
set_option maxRecDepth 100000 in
theorem nlChk_2 : (List.range' 1001 1000).all nlChk = true := by decide +kernel
set_option maxRecDepth 100000 in
theorem nlChk_3 : (List.range' 2001 1000).all nlChk = true := by decide +kernel
set_option maxRecDepth 100000 in
theorem nlChk_4 : (List.range' 3001 999).all nlChk = true := by decide +kernel
theorem nlChk_at {k : Nat} (h1 : 1 ≤ k) (h2 : k ≤ 3999) : nlChk k = true := by
  by_cases a : k ≤ 1000
  · exact List.all_eq_true.1 nlChk_1 k (by rw [List.mem_range'_1]; omega)
  · by_cases b : k ≤ 2000
    · exact List.all_eq_true.1 nlChk_2 k (by rw [List.mem_range'_1]; omega)
    · by_cases c : k ≤ 3000
      · exact List.all_eq_true.1 nlChk_3 k (by rw [List.mem_range'_1]; omega)
      · exact List.all_eq_true.1 nlChk_4 k (by rw [List.mem_range'_1]; omega)
theorem rn_back {n : Int} (h : inB n 1 3999 = true) : rnF (numText n) = (n, true) ∧ rnF (oldT n) = (n, true) := by
  obtain ⟨h0, h1⟩ := inB_iff.1 h
  have l1 := formL_len n false h0 h1
  have l2 := formL_len n true h0 h1
  obtain ⟨k, rfl⟩ : ∃ k : Nat, n = k := ⟨n.toNat, by omega⟩
  have c := nlChk_at (k := k) (by omega) (by omega)
  unfold nlChk at c
  simp only [Bool.and_eq_true, decide_eq_true_eq] at c
  obtain ⟨⟨⟨c1, c2⟩, c3⟩, c4⟩ := c
  constructor
  · unfold numText rnF
    rw [if_pos h, if_pos (by omega), c3]
    have := rnP_1 (p := formL k false) (by rw [c1]; exact h) (by rw [c1])
    rw [this, c1]
  · rw [oldT_in h]
    unfold rnF
    rw [if_pos (by rw [lastX_len, swp_len]; omega), c4]
    have := rnP_2 (p := formL k true) (by rw [c2]; exact h) (by rw [c2])
    rw [this, c2]
theorem numText_len (n : Int) : (numText n).length ≤ 18 := by
  unfold numText
  split
  · rename_i h
    obtain ⟨h0, h1⟩ := inB_iff.1 h
    exact formL_len n false h0 h1
  · simp
theorem oldT_len (n : Int) : (oldT n).length ≤ 18 := by
  cases h : inB n 1 3999 with
  | false => rw [oldT_out h]; simp
  | true =>
    obtain ⟨h0, h1⟩ := inB_iff.1 h
    rw [oldT_in h, lastX_len, swp_len]
    exact formL_len n true h0 h1
theorem nl_cnt (n : Int) : ((cntF n).2 = 2 ∧ numText n = [] ∧ oldT n = []) ∨ ((cntF n).2 = 0 ∧ rnF (numText n) = (n, true) ∧ rnF (oldT n) = (n, true) ∧ 1 ≤ (cntF n).1) := by
  cases h : inB n 1 3999 with
  | false =>
    refine .inl ⟨by rw [cntF_out h], ?_, oldT_out h⟩
    unfold numText; rw [if_neg (by simp [h])]
  | true =>
    obtain ⟨h0, h1⟩ := inB_iff.1 h
    obtain ⟨r1, r2⟩ := rn_back h
    have w1 := waysL_bd _ (formL_len n false h0 h1)
    have w2 := waysL_bd _ (formL_len n true h0 h1)
    refine .inr ⟨?_, r1, r2, ?_⟩
    · by_cases e : formL n true = formL n false
      · rw [cntF_in_eq h e]
      · rw [cntF_in_ne h e]
    · by_cases e : formL n true = formL n false
      · rw [cntF_in_eq h e]; exact w1.1
      · rw [cntF_in_ne h e]
        show 1 ≤ waysL (formL n false) + waysL (formL n true)
        omega
theorem swp_dg {l : List UInt8} (h : ∀ c ∈ l, dgB c = true) : swp 117 118 l = l := by
  unfold swp
  conv => rhs; rw [← List.map_id l]
  refine List.map_congr_left fun c hc => ?_
  have := h c hc
  rw [if_neg]; rfl
  rintro rfl
  revert this; decide
theorem pl_dg {l : List UInt8} (h : ∀ c ∈ l, dgB c = true) : pl l = l := by
  unfold pl
  rw [swp_dg h]
  unfold lastX
  rw [if_neg]
  intro e
  have := h _ (List.mem_of_getLast? e)
  revert this; decide
theorem val_dg (c : UInt8) (h : dgB c = true) : valB c = 0 := by
  unfold valB
  have k : ∀ d : UInt8, dgB d = false → ¬ c = d := fun d hd e => by rw [e, hd] at h; cases h
  rw [if_neg (k _ (by decide)), if_neg (k _ (by decide)), if_neg (k _ (by decide)), if_neg (k _ (by decide)), if_neg (k _ (by decide)), if_neg (k _ (by decide)), if_neg (k _ (by decide))]
/-- a numeral is no number in digits -/
theorem nl_rd {x : List UInt8} (h : (rnF x).2 = true) : rdF x = rnF x := by
  unfold rdF
  cases hn : nmB x with
  | false => rw [if_neg (by decide)]
  | true =>
    exfalso
    obtain ⟨⟨h1, h2⟩, h3⟩ := nmB_is hn
    have hd := dg_dec (dvF 0 x)
    have hl := (nDig4 (dvF 0 x) h2).1
    rw [h3] at hd hl
    unfold rnF at h
    rw [pl_dg hd] at h
    have hk : known x = false := known_drop x 0 hl (val_dg _ (hd _ (by
      have e : x.getD 0 0 = x[0] := by rw [List.getD_eq_getElem?_getD, List.getElem?_eq_getElem hl]; rfl
      rw [e]; exact List.getElem_mem hl)))
    rw [rnP_unknown hk] at h
    split at h <;> cases h
theorem nl_oidx : ∀ k : Nat, k < 31 → idxL ordL (ordL.getD k []) = k := by decide +kernel
theorem nl_one : ∀ k : Nat, k < 31 → ordL.getD k [] ≠ [] := by decide +kernel
theorem nl_ord (k : Int) : ordT k = [] ∨ (ordT k ≠ [] ∧ rdO (ordT k) = (k, true)) := by
  cases h : inB k 1 31 with
  | false => exact .inl (ordT_out k h)
  | true =>
    obtain ⟨h0, h1⟩ := inB_iff.1 h
    rw [ordT_in k h]
    refine .inr ⟨nl_one _ (by omega), ?_⟩
    rw [rdO_hit (nl_oidx (k.toNat - 1) (by omega))]
    congr 1; omega
theorem ordT_len (k : Int) : (ordT k).length ≤ 20 := by
  cases h : inB k 1 31 with
  | false => rw [ordT_out k h]; simp
  | true =>
    obtain ⟨h0, h1⟩ := inB_iff.1 h
    rw [ordT_in k h]
    exact ord_tlen _ (by omega)
end Go.Proofs.YtmpgokijlikddaaGreatDoor
