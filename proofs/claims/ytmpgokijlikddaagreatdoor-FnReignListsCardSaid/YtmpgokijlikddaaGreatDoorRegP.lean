/- Years of reigns, in plain arithmetic: the day on which a year of a reign begins; the year of a day. No condition. -/
import Derived.Test.YtmpgokijlikddaaGreatDoorMath
namespace Go.Proofs.YtmpgokijlikddaaGreatDoor
/-- the year k of a reign that begins on the day f begins on this day -/
def bg (f k : Int) : Int :=
  if mo f = 2 ∧ dy f = 29 ∧ leapB (yr f + k - 1) = false then num (yr f + k - 1) 3 1 else num (yr f + k - 1) (mo f) (dy f)
def bgI (f k : Int) : Int := if 2000 < k ∨ 2000 < yr f + k - 1 then 730500 else bg f k
theorem dy_le28 (f : Int) (h : ¬ (mo f = 2 ∧ dy f = 29)) (y : Int) : 1 ≤ dy f ∧ dy f ≤ mlen y (mo f) := by
  have hd := dy_bd f
  have hm := mo_bd f
  have l1 := lp_01 y
  have l2 := lp_01 (yr f)
  unfold mlen at *
  by_cases h2 : mo f = 2
  · rw [if_pos h2] at hd ⊢
    have : dy f ≠ 29 := fun e => h ⟨h2, e⟩
    omega
  · rw [if_neg h2] at hd ⊢; exact hd
theorem leap_lp {y : Int} (h : leapB y = true) : lp y = 1 := by
  unfold leapB at h; unfold lp; rw [if_pos (by simpa using h)]
theorem bg_ok (f k : Int) : ∃ m d, bg f k = num (yr f + k - 1) m d ∧ (1 ≤ m ∧ m ≤ 12) ∧ (1 ≤ d ∧ d ≤ mlen (yr f + k - 1) m) := by
  by_cases h : mo f = 2 ∧ dy f = 29 ∧ leapB (yr f + k - 1) = false
  · refine ⟨3, 1, by unfold bg; rw [if_pos h], by omega, ?_⟩
    have := mlen_bd (yr f + k - 1) 3; omega
  · refine ⟨mo f, dy f, by unfold bg; rw [if_neg h], mo_bd f, ?_⟩
    by_cases h29 : mo f = 2 ∧ dy f = 29
    · have hl : leapB (yr f + k - 1) = true := by
        cases e : leapB (yr f + k - 1)
        · exact absurd ⟨h29.1, h29.2, e⟩ h
        · rfl
      have := leap_lp hl
      rw [h29.1, h29.2]; unfold mlen; rw [if_pos rfl]; omega
    · exact dy_le28 f h29 _
theorem bg_range (f k : Int) : nyear (yr f + k - 1) ≤ bg f k ∧ bg f k < nyear (yr f + k) := by
  obtain ⟨m, d, e, hm, hd⟩ := bg_ok f k
  have := num_range (yr f + k - 1) m d hm hd
  rw [e]
  rw [show yr f + k - 1 + 1 = yr f + k from by omega] at this
  exact this
theorem bg_one (f : Int) : bg f 1 = f := by
  have e : yr f + 1 - 1 = yr f := by omega
  unfold bg
  rw [e, if_neg, num_of]
  rintro ⟨h2, h29, hl⟩
  have := (dy_bd f).2
  rw [h2, h29] at this
  unfold mlen at this; rw [if_pos rfl] at this
  have h0 : lp (yr f) = 0 := by unfold leapB at hl; unfold lp; rw [if_neg (by simpa using hl)]
  omega
theorem bg_lt (f a b : Int) (h : a < b) : bg f a < bg f b := by
  have h1 := (bg_range f a).2
  have h2 := (bg_range f b).1
  have := nyear_mono (yr f + a) (yr f + b - 1) (by omega)
  omega
theorem bg_le (f a b : Int) (h : a ≤ b) : bg f a ≤ bg f b := by
  rcases Int.lt_or_eq_of_le h with h | rfl
  · exact Int.le_of_lt (bg_lt f a b h)
  · exact Int.le_refl _
theorem bg_late (f k : Int) (h : 2000 < yr f + k - 1) : 730500 ≤ bg f k := by
  have h1 := (bg_range f k).1
  have := nyear_mono 2001 (yr f + k - 1) (by omega)
  have e2 : nyear 2001 = 730500 := by decide
  omega
theorem bg_bd (f k : Int) (h0 : 1 ≤ yr f + k - 1) (h1 : yr f + k - 1 ≤ 2000) : 0 ≤ bg f k ∧ bg f k ≤ 730499 := by
  have h1 := bg_range f k
  have a := nyear_mono 1 (yr f + k - 1) h0
  have b := nyear_mono (yr f + k) 2001 (by omega)
  have e1 : nyear 1 = 0 := by decide
  have e2 : nyear 2001 = 730500 := by decide
  omega
/-- the year of a reign that a day is in -/
def ky (f n : Int) : Int := if bg f (yr n - yr f + 1) ≤ n then yr n - yr f + 1 else yr n - yr f
theorem ky_le (f n : Int) : bg f (ky f n) ≤ n := by
  unfold ky; split
  · assumption
  · have h1 := (bg_range f (yr n - yr f)).2
    have h2 := yr_le n
    rw [show yr f + (yr n - yr f) = yr n from by omega] at h1
    omega
theorem ky_lt (f n : Int) : n < bg f (ky f n + 1) := by
  unfold ky; split
  · have h1 := (bg_range f (yr n - yr f + 1 + 1)).1
    have h2 := yr_lt n
    rw [show yr f + (yr n - yr f + 1 + 1) - 1 = yr n + 1 from by omega] at h1
    omega
  · omega
theorem ky_iff (f n k : Int) : bg f k ≤ n ↔ k ≤ ky f n := by
  have h1 := ky_le f n
  have h2 := ky_lt f n
  constructor
  · intro h
    by_cases hk : k ≤ ky f n
    · exact hk
    · have := bg_le f (ky f n + 1) k (by omega); omega
  · intro h
    have := bg_le f k (ky f n) h; omega
theorem ky_pos (f n : Int) (h : f ≤ n) : 1 ≤ ky f n := (ky_iff f n 1).1 (by rw [bg_one]; exact h)
theorem yr_mono (a b : Int) (h : a ≤ b) : yr a ≤ yr b := by unfold yr; omega
theorem ky_bd (f n : Int) (h0 : 0 ≤ f) (h : f ≤ n) (h1 : n ≤ 730499) : 1 ≤ ky f n ∧ ky f n ≤ 2000 ∧ yr n - yr f ≤ ky f n ∧ yr f + ky f n - 1 ≤ 2000 := by
  have := ky_pos f n h
  have a := yr_bd f h0 (by omega)
  have b := yr_bd n (by omega) h1
  have c : ky f n = yr n - yr f + 1 ∨ ky f n = yr n - yr f := by unfold ky; split <;> simp
  omega
theorem bgI_iff (f n k : Int) (h1 : n ≤ 730499) (h0 : 0 ≤ f) (hf : f ≤ n) : bgI f k ≤ n ↔ k ≤ ky f n := by
  have hb := ky_bd f n h0 hf h1
  unfold bgI
  split
  · constructor
    · intro h; omega
    · intro h
      have hy : yr f + ky f n - 1 ≤ 2000 := by omega
      omega
  · exact ky_iff f n k
theorem bgI_late (f k : Int) (h : 2000 < k ∨ 2000 < yr f + k - 1) : bgI f k = 730500 := by unfold bgI; rw [if_pos h]
theorem bgI_in (f k : Int) (h : ¬ (2000 < k ∨ 2000 < yr f + k - 1)) : bgI f k = bg f k := by unfold bgI; rw [if_neg h]
/-- the span of a year of a reign from f to t, and whether it exists -/
def rsp (f t k : Int) : (Int × Int) × Bool := if k ≤ 2000 ∧ bg f k ≤ t then ((bg f k, min t (bg f (k + 1) - 1)), true) else ((0, 0), false)
theorem rsp_some {f t k : Int} (h : k ≤ 2000) (h1 : bg f k ≤ t) : rsp f t k = ((bg f k, min t (bg f (k + 1) - 1)), true) := by unfold rsp; rw [if_pos ⟨h, h1⟩]
theorem rsp_none {f t k : Int} (h : ¬ (k ≤ 2000 ∧ bg f k ≤ t)) : rsp f t k = ((0, 0), false) := by unfold rsp; rw [if_neg h]
/-- the program's way to it -/
theorem rspI_none {f t k : Int} (h0 : 1 ≤ k) (ht : t ≤ 730499) (h : t < bgI f k) : rsp f t k = ((0, 0), false) := by
  apply rsp_none
  rintro ⟨h1, h2⟩
  by_cases hl : 2000 < k ∨ 2000 < yr f + k - 1
  · rcases hl with hl | hl
    · omega
    · have := bg_late f k hl; omega
  · rw [bgI_in _ _ hl] at h; omega
theorem rspI_some {f t k : Int} (h0 : 1 ≤ k) (ht : t ≤ 730499) (h : bgI f k ≤ t) (hf : 1 ≤ yr f) : rsp f t k = ((bgI f k, min t (bgI f (k + 1) - 1)), true) := by
  by_cases hl : 2000 < k ∨ 2000 < yr f + k - 1
  · rw [bgI_late _ _ hl] at h; omega
  · rw [bgI_in _ _ hl] at h ⊢
    rw [rsp_some (by omega) h]
    by_cases hn : 2000 < k + 1 ∨ 2000 < yr f + (k + 1) - 1
    · rw [bgI_late _ _ hn]
      have := bg_late f (k + 1) (by omega)
      rw [show min t (bg f (k + 1) - 1) = t from by omega, show min t ((730500 : Int) - 1) = t from by omega]
    · rw [bgI_in _ _ hn]
theorem bgI_bd (f k : Int) (h0 : 1 ≤ k) (hf : 1 ≤ yr f) : 0 ≤ bgI f k ∧ bgI f k ≤ 730500 := by
  by_cases hl : 2000 < k ∨ 2000 < yr f + k - 1
  · rw [bgI_late _ _ hl]; omega
  · rw [bgI_in _ _ hl]
    have := bg_bd f k (by omega) (by omega)
    omega
/-- what the years of a reign keep -/
theorem rsp_laws {f t m : Int} (h0 : 0 ≤ f) (hft : f ≤ t) (ht : t ≤ 730499) (hm : 1 ≤ m) (h : (rsp f t m).2 = true) :
    m ≤ ky f t ∧ (m = 1 → (rsp f t m).1.1 = f) ∧ (m = ky f t → (rsp f t m).1.2 = t) ∧ ((rsp f t (m + 1)).2 = decide (m < ky f t)) ∧ (m < ky f t → (rsp f t (m + 1)).1.1 = (rsp f t m).1.2 + 1) := by
  have hb := ky_bd f t h0 hft ht
  have hc : m ≤ 2000 ∧ bg f m ≤ t := by
    by_cases hc : m ≤ 2000 ∧ bg f m ≤ t
    · exact hc
    · rw [rsp_none hc] at h; cases h
  have e := rsp_some hc.1 hc.2
  have hk := (ky_iff f t m).1 hc.2
  refine ⟨hk, ?_, ?_, ?_, ?_⟩
  · rintro rfl; rw [e]; exact bg_one f
  · rintro rfl; rw [e]; have := ky_lt f t; show min t (bg f (ky f t + 1) - 1) = t; omega
  · by_cases hlt : m < ky f t
    · rw [rsp_some (by omega) ((ky_iff f t (m + 1)).2 (by omega))]; simp [hlt]
    · rw [rsp_none (fun h => by have := (ky_iff f t (m + 1)).1 h.2; omega)]; simp [hlt]
  · intro hlt
    have h1 := (ky_iff f t (m + 1)).2 (by omega)
    rw [rsp_some (by omega) h1, e]; show bg f (m + 1) = min t (bg f (m + 1) - 1) + 1; omega
theorem rsp_own {f t n : Int} (h0 : 0 ≤ f) (hn : f ≤ n) (hnt : n ≤ t) (ht : t ≤ 730499) :
    (rsp f t (ky f n)).2 = true ∧ (rsp f t (ky f n)).1.1 ≤ n ∧ n ≤ (rsp f t (ky f n)).1.2 := by
  have hb := ky_bd f n h0 hn (by omega)
  have h1 := ky_le f n
  have h2 := ky_lt f n
  rw [rsp_some (by omega) (by omega)]
  refine ⟨rfl, h1, ?_⟩
  show n ≤ min t (bg f (ky f n + 1) - 1); omega
theorem rsp_bd {f t k : Int} (h0 : 0 ≤ f) (hft : f ≤ t) (ht : t ≤ 730499) (hk : 1 ≤ k) : 0 ≤ (rsp f t k).1.1 ∧ (rsp f t k).1.1 ≤ 730499 ∧ 0 ≤ (rsp f t k).1.2 ∧ (rsp f t k).1.2 ≤ 730499 := by
  by_cases hc : k ≤ 2000 ∧ bg f k ≤ t
  · rw [rsp_some hc.1 hc.2]
    have a := bg_le f 1 k hk
    have b := bg_lt f k (k + 1) (by omega)
    rw [bg_one] at a
    show 0 ≤ bg f k ∧ bg f k ≤ 730499 ∧ 0 ≤ min t (bg f (k + 1) - 1) ∧ min t (bg f (k + 1) - 1) ≤ 730499
    omega
  · rw [rsp_none hc]; decide
end Go.Proofs.YtmpgokijlikddaaGreatDoor
