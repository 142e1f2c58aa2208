/- Numbers in decimal, plainly: what a text spells, which texts are numbers from 1 to 3999. No condition. -/
import Derived.Test.YtmpgokijlikddaaGreatDoorRnPlain
import Derived.Lib.ItoaMem
import Derived.Lib.ParseIntB
namespace Go.Proofs.YtmpgokijlikddaaGreatDoor
open Go.Lib
theorem dcS {u : Nat} (h : u < 10) : decDigits u = [UInt8.ofNat (48 + u)] := decDigits_one h
theorem dcB {u : Nat} (h : ¬ u < 10) : decDigits u = decDigits (u / 10) ++ [UInt8.ofNat (48 + u % 10)] := by
  rw [decDigits, dif_neg h]
/-- is a byte a digit -/
def dgB (c : UInt8) : Bool := decide (48 ≤ c.toNat) && decide (c.toNat ≤ 57)
/-- what digits spell -/
def dvF (a : Nat) (l : List UInt8) : Nat := l.foldl (fun a c => 10 * a + (c.toNat - 48)) a
theorem dvF_app (a : Nat) (l m : List UInt8) : dvF a (l ++ m) = dvF (dvF a l) m := by unfold dvF; rw [List.foldl_append]
theorem dgN (d : Nat) (h : d < 10) : (UInt8.ofNat (48 + d)).toNat = 48 + d := by simp; omega
theorem dv_dec (u : Nat) : dvF 0 (decDigits u) = u := by
  by_cases h : u < 10
  · rw [dcS h]
    show 10 * 0 + ((UInt8.ofNat (48 + u)).toNat - 48) = u
    rw [dgN u h]; omega
  · rw [dcB h, dvF_app, dv_dec (u / 10)]
    show 10 * (u / 10) + ((UInt8.ofNat (48 + u % 10)).toNat - 48) = u
    rw [dgN _ (by omega)]; omega
termination_by u
theorem dg_dec (u : Nat) : ∀ c ∈ decDigits u, dgB c = true := by
  by_cases h : u < 10
  · rw [dcS h]
    intro c hc
    obtain rfl := List.mem_singleton.1 hc
    unfold dgB; rw [dgN u h]; simp; omega
  · rw [dcB h]
    intro c hc
    rcases List.mem_append.1 hc with hc | hc
    · exact dg_dec (u / 10) c hc
    · obtain rfl := List.mem_singleton.1 hc
      unfold dgB; rw [dgN _ (by omega)]; simp; omega
termination_by u
theorem dv_bd : ∀ (l : List UInt8) (a : Nat), (∀ c ∈ l, dgB c = true) → dvF a l + 1 ≤ (a + 1) * 10 ^ l.length
  | [], a, _ => by simp [dvF]
  | c :: l, a, h => by
    have hc := h c (List.mem_cons_self ..)
    unfold dgB at hc
    simp only [Bool.and_eq_true, decide_eq_true_eq] at hc
    have ih := dv_bd l (10 * a + (c.toNat - 48)) (fun d hd => h d (List.mem_cons_of_mem _ hd))
    have e : dvF a (c :: l) = dvF (10 * a + (c.toNat - 48)) l := rfl
    have h2 : (10 * a + (c.toNat - 48) + 1) * 10 ^ l.length ≤ ((a + 1) * 10) * 10 ^ l.length := Nat.mul_le_mul_right _ (by omega)
    rw [e, List.length_cons, Nat.pow_succ, Nat.mul_comm (10 ^ l.length) 10, ← Nat.mul_assoc]
    omega
theorem dv_9 {l : List UInt8} (h : ∀ c ∈ l, dgB c = true) (hl : l.length ≤ 9) : dvF 0 l ≤ 999999999 := by
  have h1 := dv_bd l 0 h
  have h2 : 10 ^ l.length ≤ 10 ^ 9 := Nat.pow_le_pow_right (by omega) hl
  omega
theorem dv_take (l : List UInt8) (k : Nat) (h : k < l.length) : dvF 0 (l.take (k + 1)) = 10 * dvF 0 (l.take k) + ((l.getD k 0).toNat - 48) := by
  rw [List.take_succ_eq_append_getElem h, dvF_app]
  have e : l.getD k 0 = l[k] := by simp [h]
  rw [e]; rfl
/-- is a text a number from 1 to 3999 -/
def nmB (x : List UInt8) : Bool := decide (1 ≤ dvF 0 x) && decide (dvF 0 x ≤ 3999) && decide (decDigits (dvF 0 x) = x)
theorem nmB_of {u : Nat} {x : List UInt8} (h : decDigits u = x) (h1 : 1 ≤ u) (h2 : u ≤ 3999) : nmB x = true ∧ dvF 0 x = u := by
  subst h
  unfold nmB
  rw [dv_dec]
  exact ⟨by simp [h1, h2], rfl⟩
theorem nmB_is {x : List UInt8} (h : nmB x = true) : (1 ≤ dvF 0 x ∧ dvF 0 x ≤ 3999) ∧ decDigits (dvF 0 x) = x := by
  unfold nmB at h
  simp only [Bool.and_eq_true, decide_eq_true_eq] at h
  exact h
theorem nDig4 (u : Nat) (h : u ≤ 3999) : 1 ≤ (decDigits u).length ∧ (decDigits u).length ≤ 4 := by
  by_cases h1 : u < 10
  · rw [dcS h1]; simp
  · rw [dcB h1]
    by_cases h2 : u / 10 < 10
    · rw [dcS h2]; simp
    · rw [dcB h2]
      by_cases h3 : u / 10 / 10 < 10
      · rw [dcS h3]; simp
      · rw [dcB h3]
        have h4 : u / 10 / 10 / 10 < 10 := by omega
        rw [dcS h4]; simp
/-- the number of at most nine digits that a text spells -/
def sdF (x : List UInt8) : Int × Bool := if (1 ≤ x.length ∧ x.length ≤ 9) ∧ x.all dgB = true then ((dvF 0 x : Int), decide (decDigits (dvF 0 x) = x)) else (0, false)
theorem sdF_yes {x : List UInt8} (h : nmB x = true) : sdF x = ((dvF 0 x : Int), true) := by
  obtain ⟨⟨h1, h2⟩, h3⟩ := nmB_is h
  have h4 := nDig4 _ h2
  rw [h3] at h4
  have hall : x.all dgB = true := by
    rw [List.all_eq_true]
    intro c hc
    rw [← h3] at hc
    exact dg_dec _ c hc
  unfold sdF
  rw [if_pos ⟨⟨h4.1, by omega⟩, hall⟩]
  simp [h3]
theorem sdF_no {x : List UInt8} (h : nmB x = false) (h1 : (sdF x).2 = true) : inB (sdF x).1 1 3999 = false := by
  unfold sdF at h1 ⊢
  split at h1
  · rename_i hc
    rw [if_pos hc]
    have h3 : decDigits (dvF 0 x) = x := by simpa using h1
    cases hb : inB ((dvF 0 x : Int)) 1 3999 with
    | false => rfl
    | true =>
      unfold inB at hb
      simp only [decide_eq_true_eq] at hb
      have := (nmB_of h3 (by omega) (by omega)).1
      rw [h] at this; cases this
  · simp at h1
/-- what ReadNumber reads -/
def rdF (x : List UInt8) : Int × Bool := if nmB x then ((dvF 0 x : Int), true) else rnF x
theorem pum_app (M : Nat) : ∀ (l m : List UInt8) (a b : Nat), parseUintM M a l = .ok b → parseUintM M a (l ++ m) = parseUintM M b m
  | [], m, a, b, h => by simp [parseUintM] at h; subst h; rfl
  | c :: l, m, a, b, h => by
    rw [List.cons_append]
    rw [parseUintM] at h
    rw [show parseUintM M a (c :: (l ++ m)) = (if 48 ≤ c.toNat ∧ c.toNat ≤ 57 then (if 1844674407370955162 ≤ a then .range else if M < a * 10 + (c.toNat - 48) then .range else parseUintM M (a * 10 + (c.toNat - 48)) (l ++ m)) else .syntax) from by rw [parseUintM]]
    split at h
    · rename_i h1
      rw [if_pos h1]
      split at h
      · cases h
      · rename_i h2
        rw [if_neg h2]
        split at h
        · cases h
        · rename_i h3
          rw [if_neg h3]
          exact pum_app M l m _ b h
    · cases h
theorem pum_one (M a d : Nat) (hd : d < 10) (h1 : a ≤ 100000000) (h2 : a * 10 + d ≤ M) : parseUintM M a [UInt8.ofNat (48 + d)] = .ok (a * 10 + d) := by
  have e := dgN d hd
  unfold parseUintM
  rw [if_pos (by omega), if_neg (by omega), if_neg (by omega), e]
  simp [parseUintM]
theorem pum_dec (M u : Nat) (h : u ≤ 100000000) (hM : u ≤ M) : parseUintM M 0 (decDigits u) = .ok u := by
  by_cases h1 : u < 10
  · rw [dcS h1]
    have := pum_one M 0 u h1 (by omega) (by omega)
    simpa using this
  · rw [dcB h1, pum_app M _ _ 0 (u / 10) (pum_dec M (u / 10) (by omega) (by omega)), pum_one M (u / 10) (u % 10) (by omega) (by omega) (by omega)]
    congr 1; omega
termination_by u
theorem dec_ne (u : Nat) : decDigits u ≠ [] := fun h => by
  have := decDigits_length u
  rw [h] at this
  have h2 := dv_dec u
  by_cases h1 : u < 10
  · rw [dcS h1] at h; cases h
  · rw [dcB h1] at h; simp at h
theorem pint_dec (u : Nat) (h : u ≤ 100000000) : parseIntB 64 (decDigits u) = .ok (u : Int) := by
  have h0 := dec_ne u
  have hp := pum_dec (2 ^ 64 - 1) u h (by omega)
  have hd := dg_dec u
  cases e : decDigits u with
  | nil => exact absurd e h0
  | cons c r =>
    rw [e] at hp hd
    have hc := hd c (List.mem_cons_self ..)
    unfold dgB at hc
    simp only [Bool.and_eq_true, decide_eq_true_eq] at hc
    have e1 : ¬ (c.toNat = 43 ∨ c.toNat = 45) := by omega
    have e2 : ¬ c.toNat = 45 := by omega
    have e3 : parseUintB 64 (c :: r) = .ok u := by unfold parseUintB; rw [if_neg (by simp)]; exact hp
    simp only [parseIntB, if_neg e1, e3]
    rw [if_neg (by omega), if_neg (by omega), if_neg e2]
/-- what number reads: strconv.ParseInt, then the same text in decimal -/
def numF (x : List UInt8) : Int × Bool := match parseIntB 64 x with
  | .ok v => if 0 ≤ v ∧ itoa v = x then (v, true) else (0, false)
  | _ => (0, false)
theorem itoa_pos {v : Int} (h : 0 ≤ v) : itoa v = decDigits v.toNat := by unfold itoa; rw [if_neg (by omega)]
theorem numF_yes {x : List UInt8} (h : nmB x = true) : numF x = ((dvF 0 x : Int), true) := by
  obtain ⟨⟨h1, h2⟩, h3⟩ := nmB_is h
  have hp := pint_dec (dvF 0 x) (by omega)
  rw [h3] at hp
  have e : itoa (dvF 0 x : Int) = x := by rw [itoa_pos (by omega)]; simpa using h3
  unfold numF
  rw [hp]
  dsimp only
  rw [if_pos ⟨by omega, e⟩]
theorem numF_no {x : List UInt8} (h : nmB x = false) (h1 : (numF x).2 = true) : inB (numF x).1 1 3999 = false := by
  unfold numF at h1 ⊢
  split at h1
  · rename_i v hv
    split at h1
    · rename_i hc
      rw [if_pos hc]
      cases hb : inB v 1 3999 with
      | false => rfl
      | true =>
        unfold inB at hb
        simp only [decide_eq_true_eq] at hb
        have h3 := hc.2
        rw [itoa_pos hc.1] at h3
        have := (nmB_of h3 (by omega) (by omega)).1
        rw [h] at this; cases this
    · simp at h1
  · simp at h1
end Go.Proofs.YtmpgokijlikddaaGreatDoor
