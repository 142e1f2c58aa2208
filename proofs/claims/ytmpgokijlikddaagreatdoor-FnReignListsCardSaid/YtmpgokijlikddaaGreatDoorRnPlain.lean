/- A numeral read: plain functions on lists of bytes. No condition. -/
import Derived.Test.YtmpgokijlikddaaGreatDoorNumer
import Derived.Test.YtmpgokijlikddaaGreatDoorRepl
import Derived.Lib.Bytealg
namespace Go.Proofs.YtmpgokijlikddaaGreatDoor
/-- what a letter counts -/
def valB (c : UInt8) : Int := if c = 105 then 1 else if c = 118 then 5 else if c = 120 then 10 else if c = 108 then 50 else if c = 99 then 100 else if c = 100 then 500 else if c = 109 then 1000 else 0
theorem valB_bd (c : UInt8) : 0 ≤ valB c ∧ valB c ≤ 1000 := by
  unfold valB; repeat' split
  all_goals omega
def headV : List UInt8 → Int
  | [] => 0
  | c :: _ => valB c
theorem headV_bd (l : List UInt8) : 0 ≤ headV l ∧ headV l ≤ 1000 := by
  cases l with
  | nil => simp [headV]
  | cons c l => exact valB_bd c
/-- what the letters count -/
def sumS : List UInt8 → Int
  | [] => 0
  | c :: r => (if valB c < headV r then -valB c else valB c) + sumS r
theorem sumS_bd : ∀ l : List UInt8, -(1000 * (l.length : Int)) ≤ sumS l ∧ sumS l ≤ 1000 * l.length
  | [] => by simp [sumS]
  | c :: r => by
    have ih := sumS_bd r
    have hv := valB_bd c
    simp only [sumS, List.length_cons]
    split <;> omega
def rLetters : List UInt8 := [105, 118, 120, 108, 99, 100, 109]
def rTab : List Int := [1, 5, 10, 50, 100, 500, 1000]
theorem idx_known (c : UInt8) : (valB c = 0 ∧ Lib.indexByte rLetters c = -1) ∨ ∃ k : Nat, k < 7 ∧ Lib.indexByte rLetters c = k ∧ rTab.getD k 0 = valB c ∧ valB c ≠ 0 := by
  have h : ∀ n : Fin 256, (valB (UInt8.ofFin n) = 0 ∧ Lib.indexByte rLetters (UInt8.ofFin n) = -1) ∨ ∃ k : Fin 7, Lib.indexByte rLetters (UInt8.ofFin n) = (k.val : Int) ∧ rTab.getD k.val 0 = valB (UInt8.ofFin n) ∧ valB (UInt8.ofFin n) ≠ 0 := by decide +kernel
  have := h c.toFin
  rw [UInt8.ofFin_toFin] at this
  rcases this with h | ⟨k, h1, h2, h3⟩
  · exact .inl h
  · exact .inr ⟨k.val, k.isLt, h1, h2, h3⟩
/-- a word with v instead of u and a last i instead of j -/
def pl (x : List UInt8) : List UInt8 := lastX 106 105 (swp 117 118 x)
theorem pl_len (x : List UInt8) : (pl x).length = x.length := by unfold pl; rw [lastX_len, swp_len]
def known (l : List UInt8) : Bool := l.all fun c => decide (valB c ≠ 0)
theorem known_rep (a : UInt8) (n : Nat) (h : valB a ≠ 0) : known (List.replicate n a) = true := by
  unfold known; rw [List.all_eq_true]; intro c hc; rw [List.eq_of_mem_replicate hc]; simpa using h
theorem known_app (l m : List UInt8) : known (l ++ m) = (known l && known m) := by unfold known; rw [List.all_append]
theorem known_digT (d : Int) (a b : UInt8) (ha : valB a ≠ 0) (hb : valB b ≠ 0) : known (digT d a b) = true := by
  unfold digT
  split
  · have : known (b :: List.replicate (d - 5).toNat a) = (decide (valB b ≠ 0) && known (List.replicate (d - 5).toNat a)) := rfl
    rw [this, known_rep _ _ ha]; simpa using hb
  · exact known_rep _ _ ha
theorem known_digL (d : Int) (a b c : UInt8) (old : Bool) (ha : valB a ≠ 0) (hb : valB b ≠ 0) (hc : valB c ≠ 0) : known (digL d a b c old) = true := by
  unfold digL
  split
  · simp [known, ha, hb]
  · split
    · simp [known, ha, hc]
    · exact known_digT d a b ha hb
theorem known_form (n : Int) (old : Bool) : known (formL n old) = true := by
  unfold formL msL
  rw [known_app, known_app, known_app, known_rep _ _ (by decide), known_digL _ _ _ _ _ (by decide) (by decide) (by decide), known_digL _ _ _ _ _ (by decide) (by decide) (by decide), known_digL _ _ _ _ _ (by decide) (by decide) (by decide)]
  rfl
/-- what ReadNumeral says of the plain word -/
def rnP (p : List UInt8) : Int × Bool := if inB (sumS p) 1 3999 = true ∧ (p = formL (sumS p) false ∨ p = formL (sumS p) true) then (sumS p, true) else (0, false)
def rnF (x : List UInt8) : Int × Bool := if x.length ≤ 20 then rnP (pl x) else (0, false)
theorem rnP_unknown {p : List UInt8} (h : known p = false) : rnP p = (0, false) := by
  unfold rnP
  rw [if_neg]
  rintro ⟨_, h1 | h1⟩
  · rw [h1, known_form] at h; cases h
  · rw [h1, known_form] at h; cases h
theorem rnP_out {p : List UInt8} (h : inB (sumS p) 1 3999 = false) : rnP p = (0, false) := by
  unfold rnP; rw [if_neg (by simp [h])]
theorem rnP_1 {p : List UInt8} (h : inB (sumS p) 1 3999 = true) (h1 : p = formL (sumS p) false) : rnP p = (sumS p, true) := by
  unfold rnP; rw [if_pos ⟨h, .inl h1⟩]
theorem rnP_2 {p : List UInt8} (h : inB (sumS p) 1 3999 = true) (h1 : p = formL (sumS p) true) : rnP p = (sumS p, true) := by
  unfold rnP; rw [if_pos ⟨h, .inr h1⟩]
theorem rnP_3 {p : List UInt8} (h1 : p ≠ formL (sumS p) false) (h2 : p ≠ formL (sumS p) true) : rnP p = (0, false) := by
  unfold rnP; rw [if_neg (by rintro ⟨_, h | h⟩; exact h1 h; exact h2 h)]
theorem sumS_drop (l : List UInt8) (k : Nat) (h : k < l.length) : sumS (l.drop k) = (if valB (l.getD k 0) < headV (l.drop (k + 1)) then -valB (l.getD k 0) else valB (l.getD k 0)) + sumS (l.drop (k + 1)) := by
  have e : l.getD k 0 = l[k] := by rw [List.getD_eq_getElem?_getD, List.getElem?_eq_getElem h]; rfl
  rw [List.drop_eq_getElem_cons h, e]; rfl
theorem headV_drop (l : List UInt8) (k : Nat) (h : k < l.length) : headV (l.drop k) = valB (l.getD k 0) := by
  have e : l.getD k 0 = l[k] := by rw [List.getD_eq_getElem?_getD, List.getElem?_eq_getElem h]; rfl
  rw [List.drop_eq_getElem_cons h, e]; rfl
theorem known_drop (l : List UInt8) (k : Nat) (h : k < l.length) (h0 : valB (l.getD k 0) = 0) : known l = false := by
  have e : l.getD k 0 = l[k] := by rw [List.getD_eq_getElem?_getD, List.getElem?_eq_getElem h]; rfl
  rw [e] at h0
  unfold known
  rw [List.all_eq_false]
  exact ⟨l[k], List.getElem_mem h, by simp [h0]⟩
end Go.Proofs.YtmpgokijlikddaaGreatDoor
