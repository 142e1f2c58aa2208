/- Plain arithmetic of the old calendar: the numbers of dates, leap years, months, styles. No condition. -/
import GoSem.Claim
namespace Go.Proofs.YtmpgokijlikddaaGreatDoor
/-- 'n' lies in 'lo .. hi'. -/
def inB (n lo hi : Int) : Bool := decide (lo ≤ n ∧ n ≤ hi)
theorem inB_iff {n lo hi : Int} : inB n lo hi = true ↔ lo ≤ n ∧ n ≤ hi := by unfold inB; simp
theorem inB_not {n lo hi : Int} : inB n lo hi = false ↔ ¬ (lo ≤ n ∧ n ≤ hi) := by unfold inB; simp
theorem inB_mk {n lo hi : Int} (h1 : lo ≤ n) (h2 : n ≤ hi) : inB n lo hi = true := inB_iff.2 ⟨h1, h2⟩
def leapB (y : Int) : Bool := decide (y % 4 = 0)
def lp (y : Int) : Int := if y % 4 = 0 then 1 else 0
theorem lp_01 (y : Int) : 0 ≤ lp y ∧ lp y ≤ 1 := by unfold lp; split <;> omega
def mlen (y m : Int) : Int := if m = 2 then 28 + lp y else if m = 4 ∨ m = 6 ∨ m = 9 ∨ m = 11 then 30 else 31
theorem mlen_bd (y m : Int) : 28 ≤ mlen y m ∧ mlen y m ≤ 31 := by
  have := lp_01 y
  unfold mlen; split
  · omega
  · split <;> omega
/-- days of the year before month m -/
def cum (y m : Int) : Int :=
  if m ≤ 1 then 0 else if m = 2 then 31 else
    lp y + (if m = 3 then 59 else if m = 4 then 90 else if m = 5 then 120 else if m = 6 then 151 else if m = 7 then 181 else if m = 8 then 212
      else if m = 9 then 243 else if m = 10 then 273 else if m = 11 then 304 else if m = 12 then 334 else 365)
theorem cum_one (y : Int) : cum y 1 = 0 := rfl
theorem cum_succ (y m : Int) (h1 : 1 ≤ m) (h2 : m ≤ 12) : cum y (m + 1) = cum y m + mlen y m := by
  have h : m = 1 ∨ m = 2 ∨ m = 3 ∨ m = 4 ∨ m = 5 ∨ m = 6 ∨ m = 7 ∨ m = 8 ∨ m = 9 ∨ m = 10 ∨ m = 11 ∨ m = 12 := by omega
  rcases h with rfl | rfl | rfl | rfl | rfl | rfl | rfl | rfl | rfl | rfl | rfl | rfl <;> simp [cum, mlen] <;> omega
theorem cum_bd (y m : Int) (h1 : 1 ≤ m) (h2 : m ≤ 13) : 0 ≤ cum y m ∧ cum y m ≤ 366 := by
  have := lp_01 y
  have h : m = 1 ∨ m = 2 ∨ m = 3 ∨ m = 4 ∨ m = 5 ∨ m = 6 ∨ m = 7 ∨ m = 8 ∨ m = 9 ∨ m = 10 ∨ m = 11 ∨ m = 12 ∨ m = 13 := by omega
  rcases h with rfl | rfl | rfl | rfl | rfl | rfl | rfl | rfl | rfl | rfl | rfl | rfl | rfl <;> simp [cum] <;> omega
theorem cum_13 (y : Int) : cum y 13 = 365 + lp y := by simp [cum]; omega
theorem cum_mono (y a b : Int) (h1 : 1 ≤ a) (h2 : a ≤ b) (h3 : b ≤ 13) : cum y a ≤ cum y b := by
  obtain ⟨k, rfl⟩ : ∃ k : Nat, b = a + k := ⟨(b - a).toNat, by omega⟩
  induction k with
  | zero => simp
  | succ k ih =>
    have h := cum_succ y (a + k) (by omega) (by omega)
    have := (mlen_bd y (a + k)).1
    have := ih (by omega) (by omega)
    rw [show a + ((k + 1 : Nat) : Int) = a + k + 1 from by omega]
    omega
/-- the number of January 1 of a year -/
def nyear (y : Int) : Int := 365 * (y - 1) + (y - 1) / 4
theorem nyear_succ (y : Int) : nyear (y + 1) = nyear y + 365 + lp y := by unfold nyear lp; split <;> omega
theorem nyear_mono (a b : Int) (h : a ≤ b) : nyear a ≤ nyear b := by unfold nyear; omega
theorem nyear_strict (a b : Int) (h : a < b) : nyear a < nyear b := by unfold nyear; omega
theorem nyear_bd (y : Int) (h0 : 1 ≤ y) (h : y ≤ 100000) : 0 ≤ nyear y ∧ nyear y ≤ 36600000 := by unfold nyear; omega
/-- the number of a date -/
def num (y m d : Int) : Int := nyear y + cum y m + d - 1
/-- the year of a day -/
def yr (n : Int) : Int := (4 * n + 3) / 1461 + 1
theorem yr_le (n : Int) : nyear (yr n) ≤ n := by unfold nyear yr; omega
theorem yr_lt (n : Int) : n < nyear (yr n + 1) := by unfold nyear yr; omega
theorem yr_bd (n : Int) (h0 : 0 ≤ n) (h1 : n ≤ 730499) : 1 ≤ yr n ∧ yr n ≤ 2000 := by unfold yr; omega
theorem yr_of (n y : Int) (h1 : nyear y ≤ n) (h2 : n < nyear (y + 1)) : yr n = y := by
  have a := yr_le n
  have b := yr_lt n
  rcases Int.lt_trichotomy (yr n) y with h | h | h
  · have := nyear_mono (yr n + 1) y (by omega); omega
  · exact h
  · have := nyear_mono (y + 1) (yr n) (by omega); omega
/-- the month of a day of the year r (from 0) with leap day l -/
def mon (y r : Int) : Int :=
  if r < 31 then 1 else if r < 59 + lp y then 2 else if r < 90 + lp y then 3 else if r < 120 + lp y then 4 else if r < 151 + lp y then 5 else if r < 181 + lp y then 6
  else if r < 212 + lp y then 7 else if r < 243 + lp y then 8 else if r < 273 + lp y then 9 else if r < 304 + lp y then 10 else if r < 334 + lp y then 11 else 12
def mo (n : Int) : Int := mon (yr n) (n - nyear (yr n))
theorem mon_le (y r : Int) (h : 0 ≤ r) : cum y (mon y r) ≤ r := by
  have := lp_01 y
  unfold mon
  repeat' split
  all_goals (simp [cum]; try omega)
theorem mon_lt (y r : Int) (h : r < 365 + lp y) : r < cum y (mon y r + 1) := by
  have := lp_01 y
  unfold mon
  repeat' split
  all_goals (simp [cum]; try omega)
theorem mon_bd (y r : Int) : 1 ≤ mon y r ∧ mon y r ≤ 12 := by
  unfold mon
  repeat' split
  all_goals omega
theorem mon_of (y r m : Int) (h1 : 1 ≤ m) (h2 : m ≤ 12) (h3 : cum y m ≤ r) (h4 : r < cum y (m + 1)) : mon y r = m := by
  have b := mon_bd y r
  have c := (cum_bd y m h1 (by omega)).1
  have e := cum_mono y (m + 1) 13 (by omega) (by omega) (by omega)
  have f := cum_13 y
  have g1 := mon_le y r (by omega)
  have g2 := mon_lt y r (by omega)
  rcases Int.lt_trichotomy (mon y r) m with h | h | h
  · have := cum_mono y (mon y r + 1) m (by omega) (by omega) (by omega); omega
  · exact h
  · have := cum_mono y (m + 1) (mon y r) (by omega) (by omega) (by omega); omega
theorem mo_bd (n : Int) : 1 ≤ mo n ∧ mo n ≤ 12 := mon_bd _ _
/-- the day of the month of a day -/
def dy (n : Int) : Int := n - nyear (yr n) - cum (yr n) (mo n) + 1
theorem num_of (n : Int) : num (yr n) (mo n) (dy n) = n := by unfold num dy; omega
theorem dy_bd (n : Int) : 1 ≤ dy n ∧ dy n ≤ mlen (yr n) (mo n) := by
  have a := yr_le n
  have b := yr_lt n
  rw [nyear_succ] at b
  have c := mon_le (yr n) (n - nyear (yr n)) (by omega)
  have d := mon_lt (yr n) (n - nyear (yr n)) (by omega)
  have e := mon_bd (yr n) (n - nyear (yr n))
  have f := cum_succ (yr n) (mo n) e.1 e.2
  unfold mo at f
  unfold dy mo
  omega
/-- an old date, whatever its number's bounds -/
def validB (y m d : Int) : Bool := decide (1 ≤ y ∧ y ≤ 2000 ∧ 1 ≤ m ∧ m ≤ 12 ∧ 1 ≤ d ∧ d ≤ mlen y m)
theorem validB_iff {y m d : Int} : validB y m d = true ↔ 1 ≤ y ∧ y ≤ 2000 ∧ 1 ≤ m ∧ m ≤ 12 ∧ 1 ≤ d ∧ d ≤ mlen y m := by unfold validB; simp
theorem validB_not {y m d : Int} : validB y m d = false ↔ ¬ (1 ≤ y ∧ y ≤ 2000 ∧ 1 ≤ m ∧ m ≤ 12 ∧ 1 ≤ d ∧ d ≤ mlen y m) := by rw [← validB_iff]; simp
theorem num_range (y m d : Int) (hm : 1 ≤ m ∧ m ≤ 12) (hd : 1 ≤ d ∧ d ≤ mlen y m) : nyear y ≤ num y m d ∧ num y m d < nyear (y + 1) := by
  have c := cum_bd y m (by omega) (by omega)
  have e := cum_mono y (m + 1) 13 (by omega) (by omega) (by omega)
  have f := cum_13 y
  have g := cum_succ y m (by omega) (by omega)
  rw [nyear_succ]; unfold num; omega
theorem yr_num (y m d : Int) (hm : 1 ≤ m ∧ m ≤ 12) (hd : 1 ≤ d ∧ d ≤ mlen y m) : yr (num y m d) = y :=
  yr_of _ _ (num_range y m d hm hd).1 (num_range y m d hm hd).2
theorem mo_num (y m d : Int) (hm : 1 ≤ m ∧ m ≤ 12) (hd : 1 ≤ d ∧ d ≤ mlen y m) : mo (num y m d) = m := by
  have g := cum_succ y m (by omega) (by omega)
  unfold mo; rw [yr_num y m d hm hd]
  exact mon_of _ _ _ hm.1 hm.2 (by unfold num; omega) (by unfold num; omega)
theorem dy_num (y m d : Int) (hm : 1 ≤ m ∧ m ≤ 12) (hd : 1 ≤ d ∧ d ≤ mlen y m) : dy (num y m d) = d := by
  unfold dy; rw [yr_num y m d hm hd, mo_num y m d hm hd]; unfold num; omega
theorem num_bd (y m d : Int) (hy : 1 ≤ y ∧ y ≤ 2000) (hm : 1 ≤ m ∧ m ≤ 12) (hd : 1 ≤ d ∧ d ≤ mlen y m) : 0 ≤ num y m d ∧ num y m d ≤ 730499 := by
  have a := num_range y m d hm hd
  have b := nyear_mono 1 y hy.1
  have c := nyear_mono (y + 1) 2001 (by omega)
  have e1 : nyear 1 = 0 := by decide
  have e2 : nyear 2001 = 730500 := by decide
  omega
end Go.Proofs.YtmpgokijlikddaaGreatDoor
