/- Days with an indiction, plainly: day by day as year by year. No condition. -/
import Derived.Test.YtoadkljaiegnlaaDoorSpanP
namespace Go.Proofs.YtoadkljaiegnlaaDoor
/-- the day on which the indiction year y + 1 begins, by kind -/
def iday (k : Int) : Int := if k = 1 then 24 else 1
/-- the year of indiction of a day, by kind -/
def iyr (k n : Int) : Int := if k ≠ 2 ∧ num (yr n) 9 (iday k) ≤ n then yr n + 1 else yr n
def ilo (k y : Int) : Int := if k = 2 then nyear y else num (y - 1) 9 (iday k)
def ihi (k y : Int) : Int := if k = 2 then nyear (y + 1) - 1 else num y 9 (iday k) - 1
theorem num9_in (y d : Int) (d0 : 1 ≤ d) (d1 : d ≤ 30) : nyear y ≤ num y 9 d ∧ num y 9 d < nyear (y + 1) := by
  have := lp_01 y
  have h : cum y 9 = lp y + 243 := by simp [cum]
  rw [nyear_succ]; unfold num; omega
theorem iday_bd (k : Int) : 1 ≤ iday k ∧ iday k ≤ 24 := by unfold iday; split <;> omega
theorem iyr_iff (k n y : Int) : iyr k n = y ↔ ilo k y ≤ n ∧ n ≤ ihi k y := by
  have d := iday_bd k
  have a := yr_le n
  have b := yr_lt n
  unfold iyr ilo ihi
  by_cases hk : k = 2
  · rw [if_neg (by omega), if_pos hk, if_pos hk]
    constructor
    · rintro rfl; omega
    · rintro ⟨h1, h2⟩; exact yr_of n y h1 (by omega)
  · rw [if_neg hk, if_neg hk]
    by_cases hn : num (yr n) 9 (iday k) ≤ n
    · rw [if_pos ⟨hk, hn⟩]
      constructor
      · rintro rfl
        have c := num9_in (yr n + 1) (iday k) d.1 (by omega)
        rw [show yr n + 1 - 1 = yr n from by omega]; omega
      · rintro ⟨h1, h2⟩
        rcases Int.lt_trichotomy (yr n + 1) y with h | h | h
        · have c := num9_in (y - 1) (iday k) d.1 (by omega)
          have := nyear_mono (yr n + 1) (y - 1) (by omega)
          omega
        · exact h
        · have c := num9_in y (iday k) d.1 (by omega)
          rcases Int.lt_or_eq_of_le (show y ≤ yr n by omega) with h' | h'
          · have := nyear_mono (y + 1) (yr n) (by omega); omega
          · rw [h'] at h2; omega
    · rw [if_neg (by rintro ⟨_, h⟩; exact hn h)]
      constructor
      · rintro rfl
        have c := num9_in (yr n - 1) (iday k) d.1 (by omega)
        rw [show yr n - 1 + 1 = yr n from by omega] at c
        omega
      · rintro ⟨h1, h2⟩
        rcases Int.lt_trichotomy (yr n) y with h | h | h
        · have c := num9_in (y - 1) (iday k) d.1 (by omega)
          rcases Int.lt_or_eq_of_le (show yr n ≤ y - 1 by omega) with h' | h'
          · have := nyear_mono (yr n + 1) (y - 1) (by omega); omega
          · rw [← h'] at h1; omega
        · exact h
        · have c := num9_in y (iday k) d.1 (by omega)
          have := nyear_mono (y + 1) (yr n) (by omega)
          omega
def indY' (y : Int) : Int := (y + 2) % 15 + 1
/-- the span of one indiction year within a range -/
def isp (k a b y : Int) : Sp := (max a (ilo k y), min b (ihi k y))
/-- the spans of all years from y on, n of them -/
def isps (k i a b : Int) : Nat → Int → List Sp
  | 0, _ => []
  | n + 1, y => if indY' y = i ∧ (isp k a b y).1 ≤ (isp k a b y).2 then isp k a b y :: isps k i a b n (y + 1) else isps k i a b n (y + 1)
theorem isps_ok (k i a b : Int) : ∀ (n : Nat) (y : Int), (∀ s ∈ isps k i a b n y, s.1 ≤ s.2) ∧ (isps k i a b n y).length ≤ n ∧
    ∀ m, cov (isps k i a b n y) m ↔ a ≤ m ∧ m ≤ b ∧ y ≤ iyr k m ∧ iyr k m < y + n ∧ indY' (iyr k m) = i
  | 0, y => by
    refine ⟨by simp [isps], by simp [isps], fun m => ?_⟩
    constructor
    · intro h; exact absurd h cov_nil
    · intro h; omega
  | n + 1, y => by
    obtain ⟨h1, h2, h3⟩ := isps_ok k i a b n (y + 1)
    unfold isps
    by_cases hc : indY' y = i ∧ (isp k a b y).1 ≤ (isp k a b y).2
    · rw [if_pos hc]
      refine ⟨?_, ?_, fun m => ?_⟩
      · intro s hs
        rcases List.mem_cons.1 hs with rfl | hs
        · exact hc.2
        · exact h1 s hs
      · simp only [List.length_cons]; omega
      · rw [cov_cons, h3 m]
        have hi := iyr_iff k m y
        have e1 : (isp k a b y).1 = max a (ilo k y) := rfl
        have e2 : (isp k a b y).2 = min b (ihi k y) := rfl
        rw [e1, e2]
        constructor
        · rintro (⟨c1, c2⟩ | ⟨c1, c2, c3, c4, c5⟩)
          · have := hi.2 ⟨by omega, by omega⟩
            refine ⟨by omega, by omega, by omega, by omega, by rw [this]; exact hc.1⟩
          · exact ⟨c1, c2, by omega, by omega, c5⟩
        · rintro ⟨c1, c2, c3, c4, c5⟩
          by_cases he : iyr k m = y
          · have := hi.1 he; exact .inl ⟨by omega, by omega⟩
          · exact .inr ⟨c1, c2, by omega, by omega, c5⟩
    · rw [if_neg hc]
      refine ⟨h1, by omega, fun m => ?_⟩
      rw [h3 m]
      constructor
      · rintro ⟨c1, c2, c3, c4, c5⟩; exact ⟨c1, c2, by omega, by omega, c5⟩
      · rintro ⟨c1, c2, c3, c4, c5⟩
        have hi := iyr_iff k m y
        by_cases he : iyr k m = y
        · exfalso; apply hc
          have hh := hi.1 he
          refine ⟨by rw [← he]; exact c5, ?_⟩
          show max a (ilo k y) ≤ min b (ihi k y); omega
        · exact ⟨c1, c2, by omega, by omega, c5⟩
theorem iyr_bd (k m a b : Int) (h0 : a ≤ m) (h1 : m ≤ b) : yr a ≤ iyr k m ∧ iyr k m < yr a + ((yr b - yr a + 2).toNat : Nat) := by
  have e1 : yr a ≤ yr m := by unfold yr; omega
  have e2 : yr m ≤ yr b := by unfold yr; omega
  unfold iyr; split <;> omega
/-- the set of the reference -/
def indSet (k i a b : Int) : List Sp := uni (isps k i a b (yr b - yr a + 2).toNat (yr a))
theorem indSet_ok (k i a b : Int) : norm (indSet k i a b) ∧ ∀ m, cov (indSet k i a b) m ↔ a ≤ m ∧ m ≤ b ∧ indY' (iyr k m) = i := by
  obtain ⟨h1, h2, h3⟩ := isps_ok k i a b (yr b - yr a + 2).toNat (yr a)
  obtain ⟨c, d⟩ := uni_ok h1
  refine ⟨c, fun m => (d m).trans ((h3 m).trans ?_)⟩
  constructor
  · rintro ⟨c1, c2, _, _, c5⟩; exact ⟨c1, c2, c5⟩
  · rintro ⟨c1, c2, c5⟩
    have := iyr_bd k m a b c1 c2
    exact ⟨c1, c2, this.1, this.2, c5⟩
/-- day by day: the list (from its end) behind the days a .. a + n - 1 -/
def dfor (p : Int → Bool) (a : Int) : Nat → List Sp
  | 0 => []
  | n + 1 => if p (a + n) then mst (dfor p a n) (a + n, a + n) else dfor p a n
theorem dfor_ok (p : Int → Bool) (a : Int) : ∀ n : Nat, rnorm (dfor p a n) ∧ (∀ t ∈ dfor p a n, t.2 < a + n) ∧ ∀ m, cov (dfor p a n) m ↔ a ≤ m ∧ m < a + n ∧ p m = true
  | 0 => ⟨trivial, fun t ht => absurd ht List.not_mem_nil, fun m => by
      constructor
      · intro h; exact absurd h cov_nil
      · intro h; omega⟩
  | n + 1 => by
    obtain ⟨h1, h2, h3⟩ := dfor_ok p a n
    unfold dfor
    have hlo : ∀ (r : List Sp), rnorm r → ∀ t ∈ r, t.1 ≤ t.2 := by
      intro r
      induction r with
      | nil => intro _ t ht; exact absurd ht List.not_mem_nil
      | cons u r ih =>
        intro hr t ht
        rcases List.mem_cons.1 ht with rfl | ht
        · exact hr.1
        · exact ih hr.2.2 t ht
    by_cases hp : p (a + n) = true
    · rw [if_pos hp]
      have hord : ∀ t ∈ dfor p a n, t.1 ≤ (a + n, a + n).1 := fun t ht => by
        have e1 := h2 t ht
        have e2 := hlo _ h1 t ht
        show t.1 ≤ a + n; omega
      obtain ⟨g1, g2, g3⟩ := mst_ok h1 (show (a + (n : Int), a + (n : Int)).1 ≤ _ from Int.le_refl _) hord
      refine ⟨g1, ?_, fun m => ?_⟩
      · intro t ht
        have hc := (g2 t.2).1 ⟨t, ht, hlo _ g1 t ht, Int.le_refl _⟩
        rcases hc with hc | ⟨_, hc⟩
        · have := (h3 t.2).1 hc; omega
        · have : t.2 ≤ a + n := hc
          omega
      · rw [g2 m, h3 m]
        show (a ≤ m ∧ m < a + n ∧ p m = true) ∨ (a + n ≤ m ∧ m ≤ a + n) ↔ _
        constructor
        · rintro (⟨c1, c2, c3⟩ | ⟨c1, c2⟩)
          · exact ⟨c1, by omega, c3⟩
          · obtain rfl : m = a + n := by omega
            exact ⟨by omega, by omega, hp⟩
        · rintro ⟨c1, c2, c3⟩
          by_cases hm : m < a + n
          · exact .inl ⟨c1, hm, c3⟩
          · exact .inr ⟨by omega, by omega⟩
    · rw [if_neg hp]
      refine ⟨h1, fun t ht => by have := h2 t ht; omega, fun m => ?_⟩
      rw [h3 m]
      constructor
      · rintro ⟨c1, c2, c3⟩; exact ⟨c1, by omega, c3⟩
      · rintro ⟨c1, c2, c3⟩
        refine ⟨c1, ?_, c3⟩
        by_cases hm : m = a + n
        · subst hm; exact absurd c3 hp
        · omega
theorem ins_len (s : Sp) : ∀ l : List Sp, (ins s l).length = l.length + 1
  | [] => rfl
  | t :: l => by unfold ins; split <;> simp [ins_len s l]
theorem isort_len : ∀ (l r : List Sp), (l.foldl (fun r s => ins s r) r).length = r.length + l.length
  | [], r => rfl
  | s :: l, r => by rw [List.foldl_cons, isort_len l, ins_len]; simp; omega
theorem mst_len (r : List Sp) (s : Sp) : (mst r s).length ≤ r.length + 1 := by
  cases r with
  | nil => simp [mst]
  | cons t r => by_cases h : s.1 ≤ t.2 + 1 <;> simp [mst, h]
theorem fold_len : ∀ (l r : List Sp), (l.foldl mst r).length ≤ r.length + l.length
  | [], r => by simp
  | s :: l, r => by have := fold_len l (mst r s); have := mst_len r s; simp; omega
theorem uni_len (l : List Sp) : (uni l).length ≤ l.length := by
  have a := fold_len (isort l) []
  have b := isort_len l []
  unfold uni mrg isort at *
  simp at a b ⊢; omega
theorem indSet_len (k i a b : Int) : (indSet k i a b).length ≤ (yr b - yr a + 2).toNat :=
  Nat.le_trans (uni_len _) (isps_ok k i a b _ _).2.1
/-- the program's list is the reference's -/
theorem dfor_ind (k i a b : Int) (h : a ≤ b) : (dfor (fun m => decide (indY' (iyr k m) = i)) a (b - a + 1).toNat).reverse = indSet k i a b := by
  obtain ⟨h1, _, h3⟩ := dfor_ok (fun m => decide (indY' (iyr k m) = i)) a (b - a + 1).toNat
  obtain ⟨c, d⟩ := indSet_ok k i a b
  refine norm_uniq _ _ (norm_rev h1) c fun n => ?_
  rw [cov_mem (fun s => List.mem_reverse) n, h3 n, d n]
  constructor
  · rintro ⟨c1, c2, c3⟩; exact ⟨c1, by omega, by simpa using c3⟩
  · rintro ⟨c1, c2, c3⟩; exact ⟨c1, by omega, by simpa using c3⟩
end Go.Proofs.YtoadkljaiegnlaaDoor
