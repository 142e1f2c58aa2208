/- The normal form of a word, on lists of bytes. No condition. -/
import GoSem.Claim
namespace Go.Proofs.YtmpgokijlikddaaGreatDoor
/-- v for u, i for j and y, uu for w -/
def wdB (c : UInt8) : List UInt8 := if c = 118 then [117] else if c = 106 then [105] else if c = 121 then [105] else if c = 119 then [117, 117] else [c]
def wdL (l : List UInt8) : List UInt8 := (l.map wdB).flatten
/-- no letter twice in a row, from the k letters read so far -/
def ddK (l : List UInt8) : Nat → List UInt8
  | 0 => []
  | k + 1 => if k = 0 ∨ l.getD k 0 ≠ l.getD (k - 1) 0 then ddK l k ++ [l.getD k 0] else ddK l k
def dropE (l : List UInt8) : List UInt8 := if 2 < l.length ∧ l.getLast? = some 101 then l.dropLast else l
def nmL (l : List UInt8) : List UInt8 := dropE (ddK (wdL l) (wdL l).length)
theorem wdB_len (c : UInt8) : 1 ≤ (wdB c).length ∧ (wdB c).length ≤ 2 := by
  unfold wdB; repeat' split
  all_goals simp
theorem wdL_len : ∀ l : List UInt8, l.length ≤ (wdL l).length ∧ (wdL l).length ≤ 2 * l.length
  | [] => by simp [wdL]
  | c :: l => by
    have h1 := wdB_len c
    have h2 := wdL_len l
    unfold wdL at h2 ⊢
    simp only [List.map_cons, List.flatten_cons, List.length_append, List.length_cons]
    omega
theorem wdL_snoc (l : List UInt8) (k : Nat) (h : k < l.length) : wdL (l.take (k + 1)) = wdL (l.take k) ++ wdB (l.getD k 0) := by
  unfold wdL
  rw [List.take_succ_eq_append_getElem h, List.map_append, List.flatten_append]
  simp [h]
theorem ddK_len (l : List UInt8) : ∀ k, (ddK l k).length ≤ k
  | 0 => by simp [ddK]
  | k + 1 => by
    have := ddK_len l k
    unfold ddK; split
    · simp; omega
    · omega
theorem ddK_0 {l : List UInt8} : ddK l 1 = [l.getD 0 0] := by simp [ddK]
theorem ddK_ne {l : List UInt8} {k : Nat} (h : l.getD (k + 1) 0 ≠ l.getD k 0) : ddK l (k + 2) = ddK l (k + 1) ++ [l.getD (k + 1) 0] := by
  rw [ddK, if_pos (.inr (by simpa using h))]
theorem ddK_eq {l : List UInt8} {k : Nat} (h : l.getD (k + 1) 0 = l.getD k 0) : ddK l (k + 2) = ddK l (k + 1) := by
  rw [ddK, if_neg]
  rintro (h1 | h1)
  · omega
  · exact h1 (by simpa using h)
theorem nmL_len (l : List UInt8) : (nmL l).length ≤ 2 * l.length := by
  have h1 := ddK_len (wdL l) (wdL l).length
  have h2 := (wdL_len l).2
  unfold nmL dropE
  split
  · simp; omega
  · omega
/-- is a byte replaced -/
def chB (c : UInt8) : Bool := decide (c = 118) || decide (c = 106) || decide (c = 121) || decide (c = 119)
theorem wdB_same {c : UInt8} (h : chB c = false) : wdB c = [c] := by
  unfold chB at h
  simp only [Bool.or_eq_false_iff, decide_eq_false_iff_not] at h
  obtain ⟨⟨⟨h1, h2⟩, h3⟩, h4⟩ := h
  unfold wdB
  rw [if_neg h1, if_neg h2, if_neg h3, if_neg h4]
theorem wdL_same : ∀ {l : List UInt8}, l.any chB = false → wdL l = l
  | [], _ => rfl
  | c :: l, h => by
    rw [List.any_cons, Bool.or_eq_false_iff] at h
    have ih := wdL_same h.2
    have h1 := wdB_same h.1
    unfold wdL at ih ⊢
    simp only [List.map_cons, List.flatten_cons, ih, h1]
    rfl
theorem any_snoc (l : List UInt8) (k : Nat) (h : k < l.length) : (l.take (k + 1)).any chB = ((l.take k).any chB || chB (l.getD k 0)) := by
  rw [List.take_succ_eq_append_getElem h, List.any_append]
  simp [h]
/-- the length of the widened text, read to k -/
def nwK (l : List UInt8) (k : Nat) : Nat := (wdL (l.take k)).length + (l.length - k)
theorem nwK_0 (l : List UInt8) : nwK l 0 = l.length := by simp [nwK, wdL]
theorem nwK_end (l : List UInt8) : nwK l l.length = (wdL l).length := by simp [nwK]
theorem nwK_same {l : List UInt8} {k : Nat} (h : k < l.length) (hc : chB (l.getD k 0) = false) : nwK l (k + 1) = nwK l k := by
  unfold nwK
  rw [wdL_snoc l k h, wdB_same hc, List.length_append]
  simp only [List.length_cons, List.length_nil]; omega
theorem nwK_step {l : List UInt8} {k : Nat} (h : k < l.length) : nwK l (k + 1) + 1 = nwK l k + (wdB (l.getD k 0)).length := by
  unfold nwK
  rw [wdL_snoc l k h, List.length_append]
  omega
theorem nwK_bd (l : List UInt8) (k : Nat) : nwK l k ≤ 2 * l.length + l.length := by
  have := (wdL_len (l.take k)).2
  have h2 : (l.take k).length ≤ l.length := by rw [List.length_take]; omega
  unfold nwK; omega
theorem wdL_take_len (l : List UInt8) (k : Nat) (h : k < l.length) : (wdL (l.take k)).length + (wdB (l.getD k 0)).length ≤ (wdL l).length := by
  have e : wdL l = wdL (l.take (k + 1)) ++ wdL (l.drop (k + 1)) := by
    unfold wdL
    rw [← List.flatten_append, ← List.map_append, List.take_append_drop]
  rw [e, wdL_snoc l k h]
  simp only [List.length_append]; omega
end Go.Proofs.YtmpgokijlikddaaGreatDoor
