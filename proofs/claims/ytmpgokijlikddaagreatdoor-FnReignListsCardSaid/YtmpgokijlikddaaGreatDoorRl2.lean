/- Texts put together: IndP InsP SpanQ AppPd. No condition beyond those that stand in each. -/
import Derived.Test.YtmpgokijlikddaaGreatDoorRl1
/- Days with an indiction, plainly: day by day as year by year. No condition. -/
namespace Go.Proofs.YtmpgokijlikddaaGreatDoor
/-- the day on which the indiction year y + 1 begins, by kind -/
def iday (k : Int) : Int := if k = 1 then 24 else 1
/-- the year of indiction of a day, by kind -/
def iyr (k n : Int) : Int := if k ≠ 2 ∧ num (yr n) 9 (iday k) ≤ n then yr n + 1 else yr n
def ilo (k y : Int) : Int := if k = 2 then nyear y else num (y - 1) 9 (iday k)
def ihi (k y : Int) : Int := if k = 2 then nyear (y + 1) - 1 else num y 9 (iday k) - 1
theorem num9_in (y d : Int) (d0 : 1 ≤ d) (d1 : d ≤ 30) : nyear y ≤ num y 9 d ∧ num y 9 d < nyear (y + 1) := by
  have := lp_01 y
  have h : cum y 9 = lp y + 243 := by simp [cum]
  rw [nyear_succ]; unfold num; omega
theorem iday_bd (k : Int) : 1 ≤ iday k ∧ iday k ≤ 24 := by unfold iday; split <;> omega
theorem iyr_iff (k n y : Int) : iyr k n = y ↔ ilo k y ≤ n ∧ n ≤ ihi k y := by
  have d := iday_bd k
  have a := yr_le n
  have b := yr_lt n
  unfold iyr ilo ihi
  by_cases hk : k = 2
  · rw [if_neg (by omega), if_pos hk, if_pos hk]
    constructor
    · rintro rfl; omega
    · rintro ⟨h1, h2⟩; exact yr_of n y h1 (by omega)
  · rw [if_neg hk, if_neg hk]
    by_cases hn : num (yr n) 9 (iday k) ≤ n
    · rw [if_pos ⟨hk, hn⟩]
      constructor
      · rintro rfl
        have c := num9_in (yr n + 1) (iday k) d.1 (by omega)
        rw [show yr n + 1 - 1 = yr n from by omega]; omega
      · rintro ⟨h1, h2⟩
        rcases Int.lt_trichotomy (yr n + 1) y with h | h | h
        · have c := num9_in (y - 1) (iday k) d.1 (by omega)
          have := nyear_mono (yr n + 1) (y - 1) (by omega)
          omega
        · exact h
        · have c := num9_in y (iday k) d.1 (by omega)
          rcases Int.lt_or_eq_of_le (show y ≤ yr n by omega) with h' | h'
          · have := nyear_mono (y + 1) (yr n) (by omega); omega
          · rw [h'] at h2; omega
    · rw [if_neg (by rintro ⟨_, h⟩; exact hn h)]
      constructor
      · rintro rfl
        have c := num9_in (yr n - 1) (iday k) d.1 (by omega)
        rw [show yr n - 1 + 1 = yr n from by omega] at c
        omega
      · rintro ⟨h1, h2⟩
        rcases Int.lt_trichotomy (yr n) y with h | h | h
        · have c := num9_in (y - 1) (iday k) d.1 (by omega)
          rcases Int.lt_or_eq_of_le (show yr n ≤ y - 1 by omega) with h' | h'
          · have := nyear_mono (yr n + 1) (y - 1) (by omega); omega
          · rw [← h'] at h1; omega
        · exact h
        · have c := num9_in y (iday k) d.1 (by omega)
          have := nyear_mono (y + 1) (yr n) (by omega)
          omega
def indY' (y : Int) : Int := (y + 2) % 15 + 1
/-- the span of one indiction year within a range -/
def isp (k a b y : Int) : Sp := (max a (ilo k y), min b (ihi k y))
/-- the spans of all years from y on, n of them -/
def isps (k i a b : Int) : Nat → Int → List Sp
  | 0, _ => []
  | n + 1, y => if indY' y = i ∧ (isp k a b y).1 ≤ (isp k a b y).2 then isp k a b y :: isps k i a b n (y + 1) else isps k i a b n (y + 1)
theorem isps_ok (k i a b : Int) : ∀ (n : Nat) (y : Int), (∀ s ∈ isps k i a b n y, s.1 ≤ s.2) ∧ (isps k i a b n y).length ≤ n ∧
    ∀ m, cov (isps k i a b n y) m ↔ a ≤ m ∧ m ≤ b ∧ y ≤ iyr k m ∧ iyr k m < y + n ∧ indY' (iyr k m) = i
  | 0, y => by
    refine ⟨by simp [isps], by simp [isps], fun m => ?_⟩
    constructor
    · intro h; exact absurd h cov_nil
    · intro h; omega
  | n + 1, y => by
    obtain ⟨h1, h2, h3⟩ := isps_ok k i a b n (y + 1)
    unfold isps
    by_cases hc : indY' y = i ∧ (isp k a b y).1 ≤ (isp k a b y).2
    · rw [if_pos hc]
      refine ⟨?_, ?_, fun m => ?_⟩
      · intro s hs
        rcases List.mem_cons.1 hs with rfl | hs
        · exact hc.2
        · exact h1 s hs
      · simp only [List.length_cons]; omega
      · rw [cov_cons, h3 m]
        have hi := iyr_iff k m y
        have e1 : (isp k a b y).1 = max a (ilo k y) := rfl
        have e2 : (isp k a b y).2 = min b (ihi k y) := rfl
        rw [e1, e2]
        constructor
        · rintro (⟨c1, c2⟩ | ⟨c1, c2, c3, c4, c5⟩)
          · have := hi.2 ⟨by omega, by omega⟩
            refine ⟨by omega, by omega, by omega, by omega, by rw [this]; exact hc.1⟩
          · exact ⟨c1, c2, by omega, by omega, c5⟩
        · rintro ⟨c1, c2, c3, c4, c5⟩
          by_cases he : iyr k m = y
          · have := hi.1 he; exact .inl ⟨by omega, by omega⟩
          · exact .inr ⟨c1, c2, by omega, by omega, c5⟩
    · rw [if_neg hc]
      refine ⟨h1, by omega, fun m => ?_⟩
      rw [h3 m]
      constructor
      · rintro ⟨c1, c2, c3, c4, c5⟩; exact ⟨c1, c2, by omega, by omega, c5⟩
      · rintro ⟨c1, c2, c3, c4, c5⟩
        have hi := iyr_iff k m y
        by_cases he : iyr k m = y
        · exfalso; apply hc
          have hh := hi.1 he
          refine ⟨by rw [← he]; exact c5, ?_⟩
          show max a (ilo k y) ≤ min b (ihi k y); omega
        · exact ⟨c1, c2, by omega, by omega, c5⟩
theorem iyr_bd (k m a b : Int) (h0 : a ≤ m) (h1 : m ≤ b) : yr a ≤ iyr k m ∧ iyr k m < yr a + ((yr b - yr a + 2).toNat : Nat) := by
  have e1 : yr a ≤ yr m := by unfold yr; omega
  have e2 : yr m ≤ yr b := by unfold yr; omega
  unfold iyr; split <;> omega
/-- the set of the reference -/
def indSet (k i a b : Int) : List Sp := uni (isps k i a b (yr b - yr a + 2).toNat (yr a))
theorem indSet_ok (k i a b : Int) : norm (indSet k i a b) ∧ ∀ m, cov (indSet k i a b) m ↔ a ≤ m ∧ m ≤ b ∧ indY' (iyr k m) = i := by
  obtain ⟨h1, h2, h3⟩ := isps_ok k i a b (yr b - yr a + 2).toNat (yr a)
  obtain ⟨c, d⟩ := uni_ok h1
  refine ⟨c, fun m => (d m).trans ((h3 m).trans ?_)⟩
  constructor
  · rintro ⟨c1, c2, _, _, c5⟩; exact ⟨c1, c2, c5⟩
  · rintro ⟨c1, c2, c5⟩
    have := iyr_bd k m a b c1 c2
    exact ⟨c1, c2, this.1, this.2, c5⟩
/-- day by day: the list (from its end) behind the days a .. a + n - 1 -/
def dfor (p : Int → Bool) (a : Int) : Nat → List Sp
  | 0 => []
  | n + 1 => if p (a + n) then mst (dfor p a n) (a + n, a + n) else dfor p a n
theorem dfor_ok (p : Int → Bool) (a : Int) : ∀ n : Nat, rnorm (dfor p a n) ∧ (∀ t ∈ dfor p a n, t.2 < a + n) ∧ ∀ m, cov (dfor p a n) m ↔ a ≤ m ∧ m < a + n ∧ p m = true
  | 0 => ⟨trivial, fun t ht => absurd ht List.not_mem_nil, fun m => by
      constructor
      · intro h; exact absurd h cov_nil
      · intro h; omega⟩
  | n + 1 => by
    obtain ⟨h1, h2, h3⟩ := dfor_ok p a n
    unfold dfor
    have hlo : ∀ (r : List Sp), rnorm r → ∀ t ∈ r, t.1 ≤ t.2 := by
      intro r
      induction r with
      | nil => intro _ t ht; exact absurd ht List.not_mem_nil
      | cons u r ih =>
        intro hr t ht
        rcases List.mem_cons.1 ht with rfl | ht
        · exact hr.1
        · exact ih hr.2.2 t ht
    by_cases hp : p (a + n) = true
    · rw [if_pos hp]
      have hord : ∀ t ∈ dfor p a n, t.1 ≤ (a + n, a + n).1 := fun t ht => by
        have e1 := h2 t ht
        have e2 := hlo _ h1 t ht
        show t.1 ≤ a + n; omega
      obtain ⟨g1, g2, g3⟩ := mst_ok h1 (show (a + (n : Int), a + (n : Int)).1 ≤ _ from Int.le_refl _) hord
      refine ⟨g1, ?_, fun m => ?_⟩
      · intro t ht
        have hc := (g2 t.2).1 ⟨t, ht, hlo _ g1 t ht, Int.le_refl _⟩
        rcases hc with hc | ⟨_, hc⟩
        · have := (h3 t.2).1 hc; omega
        · have : t.2 ≤ a + n := hc
          omega
      · rw [g2 m, h3 m]
        show (a ≤ m ∧ m < a + n ∧ p m = true) ∨ (a + n ≤ m ∧ m ≤ a + n) ↔ _
        constructor
        · rintro (⟨c1, c2, c3⟩ | ⟨c1, c2⟩)
          · exact ⟨c1, by omega, c3⟩
          · obtain rfl : m = a + n := by omega
            exact ⟨by omega, by omega, hp⟩
        · rintro ⟨c1, c2, c3⟩
          by_cases hm : m < a + n
          · exact .inl ⟨c1, hm, c3⟩
          · exact .inr ⟨by omega, by omega⟩
    · rw [if_neg hp]
      refine ⟨h1, fun t ht => by have := h2 t ht; omega, fun m => ?_⟩
      rw [h3 m]
      constructor
      · rintro ⟨c1, c2, c3⟩; exact ⟨c1, by omega, c3⟩
      · rintro ⟨c1, c2, c3⟩
        refine ⟨c1, ?_, c3⟩
        by_cases hm : m = a + n
        · subst hm; exact absurd c3 hp
        · omega
theorem ins_len (s : Sp) : ∀ l : List Sp, (ins s l).length = l.length + 1
  | [] => rfl
  | t :: l => by unfold ins; split <;> simp [ins_len s l]
theorem isort_len : ∀ (l r : List Sp), (l.foldl (fun r s => ins s r) r).length = r.length + l.length
  | [], r => rfl
  | s :: l, r => by rw [List.foldl_cons, isort_len l, ins_len]; simp; omega
theorem mst_len (r : List Sp) (s : Sp) : (mst r s).length ≤ r.length + 1 := by
  cases r with
  | nil => simp [mst]
  | cons t r => by_cases h : s.1 ≤ t.2 + 1 <;> simp [mst, h]
theorem fold_len : ∀ (l r : List Sp), (l.foldl mst r).length ≤ r.length + l.length
  | [], r => by simp
  | s :: l, r => by have := fold_len l (mst r s); have := mst_len r s; simp; omega
theorem uni_len (l : List Sp) : (uni l).length ≤ l.length := by
  have a := fold_len (isort l) []
  have b := isort_len l []
  unfold uni mrg isort at *
  simp at a b ⊢; omega
theorem indSet_len (k i a b : Int) : (indSet k i a b).length ≤ (yr b - yr a + 2).toNat :=
  Nat.le_trans (uni_len _) (isps_ok k i a b _ _).2.1
/-- the program's list is the reference's -/
theorem dfor_ind (k i a b : Int) (h : a ≤ b) : (dfor (fun m => decide (indY' (iyr k m) = i)) a (b - a + 1).toNat).reverse = indSet k i a b := by
  obtain ⟨h1, _, h3⟩ := dfor_ok (fun m => decide (indY' (iyr k m) = i)) a (b - a + 1).toNat
  obtain ⟨c, d⟩ := indSet_ok k i a b
  refine norm_uniq _ _ (norm_rev h1) c fun n => ?_
  rw [cov_mem (fun s => List.mem_reverse) n, h3 n, d n]
  constructor
  · rintro ⟨c1, c2, c3⟩; exact ⟨c1, by omega, by simpa using c3⟩
  · rintro ⟨c1, c2, c3⟩; exact ⟨c1, by omega, by simpa using c3⟩
end Go.Proofs.YtmpgokijlikddaaGreatDoor
/- Lists of spans, plainly: a span laid at a place, and the bounds of united spans. No condition. -/
namespace Go.Proofs.YtmpgokijlikddaaGreatDoor
def insAt (q : Nat) (s : Sp) (S : List Sp) : List Sp := S.take q ++ s :: S.drop q
theorem insAt_len (q : Nat) (s : Sp) (S : List Sp) : (insAt q s S).length = S.length + 1 := by
  simp only [insAt, List.length_append, List.length_cons, List.length_take, List.length_drop]; omega
theorem insAt_end (s : Sp) (S : List Sp) : S ++ [s] = insAt S.length s S := by simp [insAt]
theorem insAt_set (q : Nat) (x y : Sp) (S : List Sp) (h : q ≤ S.length) : (insAt q x S).set q y = insAt q y S := by
  unfold insAt
  rw [List.set_append_right _ _ (by simp; omega)]
  simp [Nat.min_eq_left h]
theorem insAt_back (q : Nat) (x : Sp) (S : List Sp) (h : q + 1 ≤ S.length) : (insAt (q + 1) x S).set (q + 1) (S.getD q sp0) = insAt q (S.getD q sp0) S := by
  rw [insAt_set _ _ _ _ h]
  have hq : q < S.length := by omega
  have e : S.getD q sp0 = S[q] := by simp [hq]
  unfold insAt
  rw [e, List.take_succ_eq_append_getElem hq, List.append_assoc, List.singleton_append, ← List.drop_eq_getElem_cons hq]
theorem insAt_get (q : Nat) (x : Sp) (S : List Sp) (h : q + 1 ≤ S.length) : (insAt (q + 1) x S).getD q sp0 = S.getD q sp0 := by
  unfold insAt
  rw [List.getD_eq_getElem?_getD, List.getElem?_append_left (by simp; omega), List.getD_eq_getElem?_getD]
  simp
theorem ins_at (s : Sp) : ∀ (q : Nat) (S : List Sp), q ≤ S.length → (∀ j, j < q → (S.getD j sp0).1 ≤ s.1) → (q < S.length → s.1 < (S.getD q sp0).1) → ins s S = insAt q s S
  | 0, [], _, _, _ => rfl
  | 0, t :: S, _, _, h => by
    have := h (by simp)
    simp at this
    unfold ins insAt
    rw [if_neg (by omega)]; simp
  | q + 1, [], h, _, _ => absurd h (by simp)
  | q + 1, t :: S, h, h1, h2 => by
    have a := h1 0 (by omega)
    simp at a
    have ih := ins_at s q S (by simpa using h) (fun j hj => by simpa using h1 (j + 1) (by omega)) (fun hq => by simpa using h2 (by simpa using hq))
    unfold ins
    rw [if_pos a, ih]
    simp [insAt]
theorem take_snoc (l : List Sp) (k : Nat) (h : k < l.length) : l.take (k + 1) = l.take k ++ [l.getD k sp0] := by
  rw [List.take_succ_eq_append_getElem h]; simp [h]
def isr (l : List Sp) (k : Nat) : List Sp := (l.take k).foldl (fun r s => ins s r) []
theorem isr_succ (l : List Sp) (k : Nat) (h : k < l.length) : isr l (k + 1) = ins (l.getD k sp0) (isr l k) := by
  unfold isr; rw [take_snoc l k h, List.foldl_append]; rfl
theorem isr_len (l : List Sp) (k : Nat) (h : k ≤ l.length) : (isr l k).length = k := by
  unfold isr; rw [isort_len]; simp; omega
theorem isr_all (l : List Sp) : isr l l.length = isort l := by unfold isr isort; simp
def mgr (l : List Sp) (k : Nat) : List Sp := (l.take k).foldl mst []
theorem mgr_succ (l : List Sp) (k : Nat) (h : k < l.length) : mgr l (k + 1) = mst (mgr l k) (l.getD k sp0) := by
  unfold mgr; rw [take_snoc l k h, List.foldl_append]; rfl
theorem mgr_all (l : List Sp) : (mgr l l.length).reverse = mrg l := by unfold mgr mrg; simp
theorem mgr_len (l : List Sp) (k : Nat) : (mgr l k).length ≤ k := by
  have := fold_len (l.take k) []
  unfold mgr
  simp at this; omega
/-- spans of numbers that a day can have -/
def spB (s : Sp) : Prop := -1 ≤ s.1 ∧ s.1 ≤ 1000000 ∧ -1 ≤ s.2 ∧ s.2 ≤ 1000000
theorem mst_bd {r : List Sp} {s : Sp} (hr : ∀ t ∈ r, spB t) (hs : spB s) : ∀ t ∈ mst r s, spB t := by
  cases r with
  | nil => intro t ht; simp [mst] at ht; subst ht; exact hs
  | cons u r =>
    have hu := hr u (List.mem_cons_self ..)
    by_cases h : s.1 ≤ u.2 + 1
    · rw [mst_yes h]
      intro t ht
      rcases List.mem_cons.1 ht with rfl | ht
      · obtain ⟨a, b, c, d⟩ := hu
        obtain ⟨a', b', c', d'⟩ := hs
        exact ⟨a, b, by show -1 ≤ max u.2 s.2; omega, by show max u.2 s.2 ≤ 1000000; omega⟩
      · exact hr t (List.mem_cons_of_mem _ ht)
    · rw [mst_no h]
      intro t ht
      rcases List.mem_cons.1 ht with rfl | ht
      · exact hs
      · exact hr t ht
theorem mgr_bd {l : List Sp} (h : ∀ t ∈ l, spB t) : ∀ (k : Nat), ∀ t ∈ mgr l k, spB t := by
  intro k
  induction k with
  | zero => intro t ht; simp [mgr] at ht
  | succ k ih =>
    by_cases hk : k < l.length
    · rw [mgr_succ l k hk]
      refine mst_bd ih (h _ ?_)
      simp [hk]
    · intro t ht
      refine ih t ?_
      unfold mgr at ht ⊢
      rwa [List.take_of_length_le (by omega), ← List.take_of_length_le (show l.length ≤ k by omega)] at ht
theorem isort_bd {l : List Sp} (h : ∀ t ∈ l, spB t) : ∀ t ∈ isort l, spB t := fun t ht => h t (by
  have := ((isort_ok l [] List.Pairwise.nil).2 t).1 ht
  simpa using this)
theorem getD_mem {l : List Sp} {j : Nat} (h : j < l.length) : l.getD j sp0 ∈ l := by simp [h]
theorem ins_len' (s : Sp) (l : List Sp) : (ins s l).length = l.length + 1 := ins_len s l
end Go.Proofs.YtmpgokijlikddaaGreatDoor
/- Lists of spans, plainly: what two lists have in common, what is left of all days, how many spans a set has, the spans of reigns. No condition. -/
namespace Go.Proofs.YtmpgokijlikddaaGreatDoor
theorem len_sub : ∀ (l F : List Int), l.Nodup → (∀ x ∈ l, x ∈ F) → l.length ≤ F.length
  | [], F, _, _ => Nat.zero_le _
  | x :: l, F, hn, hs => by
    rw [List.nodup_cons] at hn
    have hx := hs x (List.mem_cons_self ..)
    have ih := len_sub l (F.erase x) hn.2 (fun y hy => (List.mem_erase_of_ne (by rintro rfl; exact hn.1 hy)).2 (hs y (List.mem_cons_of_mem _ hy)))
    rw [List.length_erase_of_mem hx] at ih
    have := List.length_pos_of_mem hx
    simp only [List.length_cons]
    omega
theorem norm_nodup : ∀ {l : List Sp}, norm l → (l.map (·.1)).Nodup
  | [], _ => by simp
  | s :: l, h => by
    rw [List.map_cons, List.nodup_cons]
    refine ⟨fun hm => ?_, norm_nodup h.2.2⟩
    obtain ⟨t, ht, e⟩ := List.mem_map.1 hm
    have := h.2.1 t ht
    have := h.1
    omega
theorem mst_from (r : List Sp) (s : Sp) : ∀ t ∈ mst r s, t.1 = s.1 ∨ ∃ u ∈ r, t.1 = u.1 := by
  cases r with
  | nil =>
    intro t ht
    obtain rfl : t = s := by simpa [mst] using ht
    exact .inl rfl
  | cons u r =>
    by_cases h : s.1 ≤ u.2 + 1
    · rw [mst_yes h]
      intro t ht
      rcases List.mem_cons.1 ht with rfl | ht
      · exact .inr ⟨u, List.mem_cons_self .., rfl⟩
      · exact .inr ⟨t, List.mem_cons_of_mem _ ht, rfl⟩
    · rw [mst_no h]
      intro t ht
      rcases List.mem_cons.1 ht with rfl | ht
      · exact .inl rfl
      · exact .inr ⟨t, ht, rfl⟩
theorem fold_from (F : List Int) : ∀ (l r : List Sp), (∀ s ∈ l, s.1 ∈ F) → (∀ s ∈ r, s.1 ∈ F) → ∀ t ∈ l.foldl mst r, t.1 ∈ F
  | [], _, _, hr => hr
  | s :: l, r, hl, hr => fold_from F l (mst r s) (fun u hu => hl u (List.mem_cons_of_mem _ hu)) (fun t ht => by
      rcases mst_from r s t ht with e | ⟨u, hu, e⟩
      · rw [e]; exact hl s (List.mem_cons_self ..)
      · rw [e]; exact hr u hu)
theorem isort_iff (l : List Sp) (u : Sp) : u ∈ isort l ↔ u ∈ l := by
  obtain ⟨_, b⟩ := isort_ok l [] List.Pairwise.nil
  unfold isort; rw [b u]; simp
theorem uni_from {l : List Sp} {F : List Int} (h : ∀ s ∈ l, s.1 ∈ F) : ∀ t ∈ uni l, t.1 ∈ F := by
  intro t ht
  have ht' : t ∈ (isort l).foldl mst [] := List.mem_reverse.1 ht
  exact fold_from F (isort l) [] (fun s hs => h s ((isort_iff l s).1 hs)) (fun s hs => absurd hs List.not_mem_nil) t ht'
/-- a set has no more spans than begins -/
theorem uni_lenF {l : List Sp} {F : List Int} (hs : ∀ s ∈ l, s.1 ≤ s.2) (h : ∀ s ∈ l, s.1 ∈ F) : (uni l).length ≤ F.length := by
  have := len_sub ((uni l).map (·.1)) F (norm_nodup (uni_ok hs).1) (fun x hx => by
    obtain ⟨t, ht, rfl⟩ := List.mem_map.1 hx
    exact uni_from h t ht)
  simpa using this
theorem uni_same {l m : List Sp} (hl : ∀ s ∈ l, s.1 ≤ s.2) (hm : ∀ s ∈ m, s.1 ≤ s.2) (h : ∀ n, cov l n ↔ cov m n) : uni l = uni m := by
  obtain ⟨a, b⟩ := uni_ok hl
  obtain ⟨c, d⟩ := uni_ok hm
  exact norm_uniq _ _ a c fun n => (b n).trans ((h n).trans (d n).symm)
theorem uni_bd {l : List Sp} (h : ∀ t ∈ l, spB t) : ∀ t ∈ uni l, spB t := by
  intro t ht
  have := mgr_bd (isort_bd h) (isort l).length t
  unfold mgr at this
  rw [List.take_length] at this
  exact this (List.mem_reverse.1 ht)
theorem uni_nil_iff {l : List Sp} : uni l = [] ↔ l = [] := by
  constructor
  · intro h
    have h1 : (isort l).foldl mst [] = [] := by
      have : mrg (isort l) = [] := h
      unfold mrg at this
      simpa using this
    have h2 : ∀ (m r : List Sp), m.foldl mst r = [] → m = [] := by
      intro m
      induction m with
      | nil => intros; rfl
      | cons s m ih =>
        intro r hr
        rw [List.foldl_cons] at hr
        have hm := ih _ hr
        subst hm
        exfalso
        cases r with
        | nil => simp [mst] at hr
        | cons t r => by_cases hc : s.1 ≤ t.2 + 1
                      · rw [mst_yes hc] at hr; simp at hr
                      · rw [mst_no hc] at hr; simp at hr
    have h3 := h2 _ _ h1
    cases l with
    | nil => rfl
    | cons s l => exact absurd ((isort_iff (s :: l) s).2 (List.mem_cons_self ..)) (by rw [h3]; exact List.not_mem_nil)
  · rintro rfl; rfl
/-- what two spans have in common -/
def mt (a b : Sp) : List Sp := if max a.1 b.1 ≤ min a.2 b.2 then [(max a.1 b.1, min a.2 b.2)] else []
theorem mt_T {a b : Sp} (h : max a.1 b.1 ≤ min a.2 b.2) : mt a b = [(max a.1 b.1, min a.2 b.2)] := if_pos h
theorem mt_F {a b : Sp} (h : ¬ max a.1 b.1 ≤ min a.2 b.2) : mt a b = [] := if_neg h
/-- what a span and a list have in common -/
def met1 (a : Sp) : List Sp → List Sp
  | [] => []
  | b :: l => mt a b ++ (if a.2 < b.2 then [] else met1 a l)
theorem met1_one (a b : Sp) : met1 a [b] = mt a b := by
  unfold met1; split <;> simp [met1]
theorem met1_go (a : Sp) (R : List Sp) (k : Nat) (h : k < R.length) (hc : ¬ a.2 < (R.getD k sp0).2) : met1 a (R.drop k) = mt a (R.getD k sp0) ++ met1 a (R.drop (k + 1)) := by
  rw [List.drop_eq_getElem_cons h, met1]
  have e : R.getD k sp0 = R[k] := by simp [h]
  rw [← e, if_neg hc]
theorem met1_end (a : Sp) (R : List Sp) (k : Nat) (h : k < R.length) (hc : a.2 < (R.getD k sp0).2) : met1 a (R.drop k) = mt a (R.getD k sp0) := by
  rw [List.drop_eq_getElem_cons h, met1]
  have e : R.getD k sp0 = R[k] := by simp [h]
  rw [← e, if_pos hc, List.append_nil]
theorem mt_len (a b : Sp) : (mt a b).length ≤ 1 := by unfold mt; split <;> simp
theorem met1_len (a : Sp) : ∀ R : List Sp, (met1 a R).length ≤ R.length
  | [] => by simp [met1]
  | b :: l => by
    have h1 := mt_len a b
    have h2 := met1_len a l
    unfold met1
    split
    · simp; omega
    · simp; omega
theorem mt_ok {a b s : Sp} (h : s ∈ mt a b) : s.1 = max a.1 b.1 ∧ s.2 = min a.2 b.2 ∧ s.1 ≤ s.2 := by
  unfold mt at h
  split at h
  · rename_i hc
    obtain rfl := List.mem_singleton.1 h
    exact ⟨rfl, rfl, hc⟩
  · exact absurd h List.not_mem_nil
/-- the days behind a day that are in no span of a list -/
def rst : Int → List Sp → List Sp
  | a, [] => if a ≤ 730499 then [(a, 730499)] else []
  | a, s :: l => (if a < s.1 then [(a, s.1 - 1)] else []) ++ rst (s.2 + 1) l
theorem rst_step (a : Int) (R : List Sp) (k : Nat) (h : k < R.length) : rst a (R.drop k) = (if a < (R.getD k sp0).1 then [(a, (R.getD k sp0).1 - 1)] else []) ++ rst ((R.getD k sp0).2 + 1) (R.drop (k + 1)) := by
  have e : R.getD k sp0 = R[k] := by simp [h]
  rw [List.drop_eq_getElem_cons h, rst, ← e]
theorem rst_end (a : Int) (R : List Sp) : rst a (R.drop R.length) = if a ≤ 730499 then [(a, 730499)] else [] := by rw [List.drop_length, rst]
theorem rst_len : ∀ (l : List Sp) (a : Int), (rst a l).length ≤ l.length + 1
  | [], a => by unfold rst; split <;> simp
  | s :: l, a => by
    have := rst_len l (s.2 + 1)
    unfold rst
    split <;> simp <;> omega
/-- what a span has in common with the spans ahead of it in a list -/
def inn (S : List Sp) (i : Nat) : Nat → List Sp
  | 0 => []
  | k + 1 => inn S i k ++ mt (S.getD i sp0) (S.getD k sp0)
def dis (S : List Sp) : Nat → List Sp
  | 0 => []
  | i + 1 => dis S i ++ inn S i i
def tim (S : List Sp) : Nat → List Sp
  | 0 => []
  | i + 1 => tim S i ++ inn S i (i + 1)
theorem inn_mem {S : List Sp} {i : Nat} {s : Sp} : ∀ {k : Nat}, s ∈ inn S i k → ∃ j, j < k ∧ s ∈ mt (S.getD i sp0) (S.getD j sp0)
  | 0, h => absurd h List.not_mem_nil
  | k + 1, h => by
    rcases List.mem_append.1 h with h | h
    · obtain ⟨j, hj, h⟩ := inn_mem h; exact ⟨j, by omega, h⟩
    · exact ⟨k, by omega, h⟩
theorem dis_mem {S : List Sp} {s : Sp} : ∀ {i : Nat}, s ∈ dis S i → ∃ j k, j < i ∧ k < j ∧ s ∈ mt (S.getD j sp0) (S.getD k sp0)
  | 0, h => absurd h List.not_mem_nil
  | i + 1, h => by
    rcases List.mem_append.1 h with h | h
    · obtain ⟨j, k, hj, hk, h⟩ := dis_mem h; exact ⟨j, k, by omega, hk, h⟩
    · obtain ⟨k, hk, h⟩ := inn_mem h; exact ⟨i, k, by omega, hk, h⟩
theorem tim_mem {S : List Sp} {s : Sp} : ∀ {i : Nat}, s ∈ tim S i → ∃ j k, j < i ∧ k ≤ j ∧ s ∈ mt (S.getD j sp0) (S.getD k sp0)
  | 0, h => absurd h List.not_mem_nil
  | i + 1, h => by
    rcases List.mem_append.1 h with h | h
    · obtain ⟨j, k, hj, hk, h⟩ := tim_mem h; exact ⟨j, k, by omega, hk, h⟩
    · obtain ⟨k, hk, h⟩ := inn_mem h; exact ⟨i, k, by omega, by omega, h⟩
theorem inn_len (S : List Sp) (i : Nat) : ∀ k, (inn S i k).length ≤ k
  | 0 => Nat.le_refl _
  | k + 1 => by
    have := inn_len S i k
    have := mt_len (S.getD i sp0) (S.getD k sp0)
    unfold inn; rw [List.length_append]; omega
theorem sq_le (i : Nat) (h : i ≤ 30) : i * 30 ≤ 900 := by omega
theorem dis_len (S : List Sp) : ∀ i, i ≤ 30 → (dis S i).length ≤ i * 30
  | 0, _ => by simp [dis]
  | i + 1, h => by
    have := dis_len S i (by omega)
    have := inn_len S i i
    unfold dis; simp; omega
theorem tim_len (S : List Sp) : ∀ i, i ≤ 30 → (tim S i).length ≤ i * 30
  | 0, _ => by simp [tim]
  | i + 1, h => by
    have := tim_len S i (by omega)
    have := inn_len S i (i + 1)
    unfold tim; simp; omega
theorem tim_cov {S : List Sp} (hs : ∀ s ∈ S, s.1 ≤ s.2) (n : Int) : cov (tim S S.length) n ↔ cov S n := by
  constructor
  · rintro ⟨s, h, h1, h2⟩
    obtain ⟨j, k, hj, hk, h⟩ := tim_mem h
    obtain ⟨a, b, _⟩ := mt_ok h
    exact ⟨S.getD j sp0, getD_mem hj, by omega, by omega⟩
  · rintro ⟨s, h, h1, h2⟩
    obtain ⟨j, hj, rfl⟩ := List.getElem_of_mem h
    have e : S.getD j sp0 = S[j] := by simp [hj]
    have key : ∀ i, j < i → S[j] ∈ tim S i := by
      intro i
      induction i with
      | zero => intro h; omega
      | succ i ih =>
        intro hji
        by_cases hlt : j < i
        · exact List.mem_append_left _ (ih hlt)
        · obtain rfl : j = i := by omega
          refine List.mem_append_right _ (List.mem_append_right _ ?_)
          have hle := hs _ h
          rw [e, mt_T (by omega)]
          simp only [Int.max_self, Int.min_self]
          exact List.mem_singleton.2 rfl
    exact ⟨S[j], key _ hj, h1, h2⟩
theorem tim_uni {S : List Sp} (hs : ∀ s ∈ S, s.1 ≤ s.2) : uni (tim S S.length) = uni S :=
  uni_same (fun s h => by obtain ⟨j, k, _, _, h⟩ := tim_mem h; exact (mt_ok h).2.2) hs (tim_cov hs)
theorem mt_from {S : List Sp} {j k : Nat} {s : Sp} (hj : j < S.length) (hk : k < S.length) (h : s ∈ mt (S.getD j sp0) (S.getD k sp0)) : s.1 ∈ S.map (·.1) := by
  obtain ⟨a, _, _⟩ := mt_ok h
  rw [a]
  by_cases hc : (S.getD j sp0).1 ≤ (S.getD k sp0).1
  · rw [show max (S.getD j sp0).1 (S.getD k sp0).1 = (S.getD k sp0).1 from by omega]; exact List.mem_map.2 ⟨_, getD_mem hk, rfl⟩
  · rw [show max (S.getD j sp0).1 (S.getD k sp0).1 = (S.getD j sp0).1 from by omega]; exact List.mem_map.2 ⟨_, getD_mem hj, rfl⟩
theorem mt_spB {S : List Sp} (hb : ∀ s ∈ S, spB s) {j k : Nat} {s : Sp} (hj : j < S.length) (hk : k < S.length) (h : s ∈ mt (S.getD j sp0) (S.getD k sp0)) : spB s := by
  obtain ⟨a, b, _⟩ := mt_ok h
  obtain ⟨c1, c2, c3, c4⟩ := hb _ (getD_mem hj)
  obtain ⟨d1, d2, d3, d4⟩ := hb _ (getD_mem hk)
  exact ⟨by omega, by omega, by omega, by omega⟩
end Go.Proofs.YtmpgokijlikddaaGreatDoor
/- append in a world that a drawn region has left, and append of a whole list. Conditions: how the slices lie. -/
namespace Go.Proofs.YtmpgokijlikddaaGreatDoor
open Go.RowKit
theorem OwnP.to {w : World} {b : Nat} {v : Value} {xs ys : List Sp} (h : OwnP w b v xs) (e : xs = ys) : OwnP w b v ys := e ▸ h
theorem wpList_appPd {ops : Array Oper} {rest : List Oper} {o : Oper} {a : Act} {Q : Exit → Act → World → Prop} (hgd : o.guard = none) (s x : Operand)
    (ho : o.op = .call { callee := .builtin .append, args := #[s, x], argTypes := #[27, 27] }) (wr : World) (base : Nat) (v : Value) (l : List Sp) (y z : Int)
    (hs : a.eval s = v) (hown : OwnP wr base v l) (g : Nat) (hg : g = wr.heap.size) (hx : a.eval x = .slice (some ⟨g, 0, none⟩) 1 1) (hlen : l.length ≤ 10000000) (hbase : base ≤ wr.heap.size)
    (h : ∀ v' w', OwnP w' base v' (l ++ [(y, z)]) → wr.grownBy w' v.ownBlock → wpList Tryz.prog ops Q rest (a.put o.dst v') w') :
    wpList Tryz.prog ops Q (o :: rest) a (wr.alloc (.cells #[.int .i64 y, .int .i64 z] 47)).drew :=
  wpList_appP hgd s x ho wr.drew base v l y z hs hown.drew g hg hx hlen hbase (fun v' w' h1 h2 => h v' w' h1 (grown_trans (grown_of_below (Below.refl wr.heap.size wr).drew _) h2))
end Go.Proofs.YtmpgokijlikddaaGreatDoor
