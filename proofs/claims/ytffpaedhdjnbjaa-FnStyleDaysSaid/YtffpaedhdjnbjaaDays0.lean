/- Plain: the days of a span with a month and a day, told by two ranges of years. No condition. -/
import Derived.Test.YtffpaedhdjnbjaaStyle
namespace Go.Proofs.Ytffpaedhdjnbjaa
/-- what the year y gives -/
def dwF (m d f t y : Int) : List Int := if validB y m d && inB (num y m d) f t then [num y m d] else []
/-- the lists of the years a .. a + k - 1 -/
def dls (F : Int → List Int) (a : Int) : Nat → List Int
  | 0 => []
  | k + 1 => dls F a k ++ F (a + k)
theorem dls_cons (F : Int → List Int) (a : Int) (k : Nat) : dls F a (k + 1) = F a ++ dls F (a + 1) k := by
  induction k with
  | zero => simp [dls]
  | succ k ih =>
    have e : a + ((k + 1 : Nat) : Int) = a + 1 + k := by omega
    rw [dls, ih, List.append_assoc, dls, e]
theorem dls_front (F : Int → List Int) (j : Nat) : ∀ (a : Int) (k : Nat), (∀ y, a ≤ y → y < a + j → F y = []) → dls F a (j + k) = dls F (a + j) k := by
  induction j with
  | zero => intro a k _; simp
  | succ j ih =>
    intro a k h
    rw [show j + 1 + k = (j + k) + 1 from by omega, dls_cons, h a (by omega) (by omega), List.nil_append, ih (a + 1) k (fun y h1 h2 => h y (by omega) (by omega))]
    congr 1; omega
theorem dls_back (F : Int → List Int) (j : Nat) : ∀ (a : Int) (k : Nat), (∀ y, a + k ≤ y → y < a + k + j → F y = []) → dls F a (k + j) = dls F a k := by
  induction j with
  | zero => intro a k _; simp
  | succ j ih =>
    intro a k h
    rw [show k + (j + 1) = (k + j) + 1 from by omega, dls, h (a + ((k + j : Nat) : Int)) (by omega) (by omega), List.append_nil, ih a k (fun y h1 h2 => h y h1 (by omega))]
theorem dwF_T {m d f t y : Int} (hv : validB y m d = true) (hi : inB (num y m d) f t = true) : dwF m d f t y = [num y m d] := by simp [dwF, hv, hi]
theorem dwF_F {m d f t y : Int} (hv : validB y m d = false) : dwF m d f t y = [] := by simp [dwF, hv]
theorem dwF_N {m d f t y : Int} (hi : inB (num y m d) f t = false) : dwF m d f t y = [] := by simp [dwF, hi]
theorem dwF_len (m d f t y : Int) : (dwF m d f t y).length ≤ 1 := by unfold dwF; split <;> simp
theorem dls_len (m d f t a : Int) (k : Nat) : (dls (dwF m d f t) a k).length ≤ k := by
  induction k with
  | zero => simp [dls]
  | succ k ih => have := dwF_len m d f t (a + k); simp only [dls, List.length_append]; omega
theorem yr_mono (a b : Int) (h : a ≤ b) : yr a ≤ yr b := by unfold yr; omega
theorem dwF_out (m d f t y : Int) (h : y < yr f ∨ yr t < y) : dwF m d f t y = [] := by
  unfold dwF
  split
  next hh =>
    simp only [Bool.and_eq_true] at hh
    obtain ⟨hv, hi⟩ := hh
    have hv' := validB_iff.1 hv
    have hi' := inB_iff.1 hi
    have e := yr_num y m d ⟨hv'.2.2.1, hv'.2.2.2.1⟩ ⟨hv'.2.2.2.2.1, hv'.2.2.2.2.2⟩
    have a := yr_mono f (num y m d) hi'.1
    have b := yr_mono (num y m d) t hi'.2
    omega
  next => rfl
/-- the days of the year y in the style s with a month and a day -/
def dws (s y m d : Int) : List Int := dls (dwF m d (beg s y) (beg s (y + 1) - 1)) (y - 1) 3
theorem nyear_ge (y : Int) : nyear (y - 1) + 365 ≤ nyear y := by unfold nyear; omega
theorem span_days (s y : Int) (h0 : 2 ≤ y) (h1 : y ≤ 1999) : 0 ≤ beg s y ∧ beg s y ≤ beg s (y + 1) - 1 ∧ beg s (y + 1) - 1 ≤ 730499 ∧ y - 1 ≤ yr (beg s y) ∧ yr (beg s y) ≤ yr (beg s (y + 1) - 1) ∧ yr (beg s (y + 1) - 1) ≤ y + 1 := by
  have a := beg_bd s y
  have b := beg_bd s (y + 1)
  have c := beg_mono s y
  have e1 : nyear 2 = 365 := by decide
  have e2 : nyear 2000 = 730134 := by decide
  have f := nyear_mono 2 y h0
  have g := nyear_mono (y + 1) 2000 (by omega)
  have k := nyear_ge y
  have k2 := nyear_ge (y + 2)
  rw [show y + 2 - 1 = y + 1 from by omega] at k2
  have l1 : ¬ yr (beg s y) < y - 1 := fun h => by
    have := yr_lt (beg s y); have := nyear_mono (yr (beg s y) + 1) (y - 1) (by omega); omega
  have l2 : ¬ y + 1 < yr (beg s (y + 1) - 1) := fun h => by
    have := yr_le (beg s (y + 1) - 1); have := nyear_mono (y + 2) (yr (beg s (y + 1) - 1)) (by omega); omega
  have l3 := yr_mono (beg s y) (beg s (y + 1) - 1) (by omega)
  omega
theorem dws_eq (s y m d : Int) (h0 : 2 ≤ y) (h1 : y ≤ 1999) : dws s y m d = dls (dwF m d (beg s y) (beg s (y + 1) - 1)) (yr (beg s y)) (yr (beg s (y + 1) - 1) + 1 - yr (beg s y)).toNat := by
  obtain ⟨_, _, _, a, b, c⟩ := span_days s y h0 h1
  unfold dws
  obtain ⟨j, hj⟩ : ∃ j : Nat, yr (beg s y) = y - 1 + j := ⟨(yr (beg s y) - (y - 1)).toNat, by omega⟩
  obtain ⟨k, hk⟩ : ∃ k : Nat, (yr (beg s (y + 1) - 1) + 1 - yr (beg s y)).toNat = k := ⟨_, rfl⟩
  obtain ⟨l, hl⟩ : ∃ l : Nat, 3 = j + (k + l) := ⟨3 - j - k, by omega⟩
  rw [hk, hl, dls_front _ j _ _ (fun z h2 h3 => dwF_out _ _ _ _ _ (.inl (by omega))), ← hj, dls_back _ l _ k (fun z h2 h3 => dwF_out _ _ _ _ _ (.inr (by omega)))]
def dwsF (s y m d : Int) : List Int × Int := if inB s 0 6 && inB y 2 1999 && validB 4 m d then (dws s y m d, 0) else ([], 2)
theorem dwsF_len (s y m d : Int) : (dwsF s y m d).1.length ≤ 3 := by
  unfold dwsF
  split
  · exact dls_len _ _ _ _ _ 3
  · simp
end Go.Proofs.Ytffpaedhdjnbjaa
