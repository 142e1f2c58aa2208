/- Lists of spans, plainly: what two lists have in common, what is left of all days, how many spans a set has, the spans of reigns. No condition. -/
import Derived.Test.YtoadkljaiegnlaaDoorPRow
import Derived.Test.YtoadkljaiegnlaaDoorInsP
namespace Go.Proofs.YtoadkljaiegnlaaDoor
theorem len_sub : ∀ (l F : List Int), l.Nodup → (∀ x ∈ l, x ∈ F) → l.length ≤ F.length
  | [], F, _, _ => Nat.zero_le _
  | x :: l, F, hn, hs => by
    rw [List.nodup_cons] at hn
    have hx := hs x (List.mem_cons_self ..)
    have ih := len_sub l (F.erase x) hn.2 (fun y hy => (List.mem_erase_of_ne (by rintro rfl; exact hn.1 hy)).2 (hs y (List.mem_cons_of_mem _ hy)))
    rw [List.length_erase_of_mem hx] at ih
    have := List.length_pos_of_mem hx
    simp only [List.length_cons]
    omega
theorem norm_nodup : ∀ {l : List Sp}, norm l → (l.map (·.1)).Nodup
  | [], _ => by simp
  | s :: l, h => by
    rw [List.map_cons, List.nodup_cons]
    refine ⟨fun hm => ?_, norm_nodup h.2.2⟩
    obtain ⟨t, ht, e⟩ := List.mem_map.1 hm
    have := h.2.1 t ht
    have := h.1
    omega
theorem mst_from (r : List Sp) (s : Sp) : ∀ t ∈ mst r s, t.1 = s.1 ∨ ∃ u ∈ r, t.1 = u.1 := by
  cases r with
  | nil =>
    intro t ht
    obtain rfl : t = s := by simpa [mst] using ht
    exact .inl rfl
  | cons u r =>
    by_cases h : s.1 ≤ u.2 + 1
    · rw [mst_yes h]
      intro t ht
      rcases List.mem_cons.1 ht with rfl | ht
      · exact .inr ⟨u, List.mem_cons_self .., rfl⟩
      · exact .inr ⟨t, List.mem_cons_of_mem _ ht, rfl⟩
    · rw [mst_no h]
      intro t ht
      rcases List.mem_cons.1 ht with rfl | ht
      · exact .inl rfl
      · exact .inr ⟨t, ht, rfl⟩
theorem fold_from (F : List Int) : ∀ (l r : List Sp), (∀ s ∈ l, s.1 ∈ F) → (∀ s ∈ r, s.1 ∈ F) → ∀ t ∈ l.foldl mst r, t.1 ∈ F
  | [], _, _, hr => hr
  | s :: l, r, hl, hr => fold_from F l (mst r s) (fun u hu => hl u (List.mem_cons_of_mem _ hu)) (fun t ht => by
      rcases mst_from r s t ht with e | ⟨u, hu, e⟩
      · rw [e]; exact hl s (List.mem_cons_self ..)
      · rw [e]; exact hr u hu)
theorem isort_iff (l : List Sp) (u : Sp) : u ∈ isort l ↔ u ∈ l := by
  obtain ⟨_, b⟩ := isort_ok l [] List.Pairwise.nil
  unfold isort; rw [b u]; simp
theorem uni_from {l : List Sp} {F : List Int} (h : ∀ s ∈ l, s.1 ∈ F) : ∀ t ∈ uni l, t.1 ∈ F := by
  intro t ht
  have ht' : t ∈ (isort l).foldl mst [] := List.mem_reverse.1 ht
  exact fold_from F (isort l) [] (fun s hs => h s ((isort_iff l s).1 hs)) (fun s hs => absurd hs List.not_mem_nil) t ht'
/-- a set has no more spans than begins -/
theorem uni_lenF {l : List Sp} {F : List Int} (hs : ∀ s ∈ l, s.1 ≤ s.2) (h : ∀ s ∈ l, s.1 ∈ F) : (uni l).length ≤ F.length := by
  have := len_sub ((uni l).map (·.1)) F (norm_nodup (uni_ok hs).1) (fun x hx => by
    obtain ⟨t, ht, rfl⟩ := List.mem_map.1 hx
    exact uni_from h t ht)
  simpa using this
theorem uni_same {l m : List Sp} (hl : ∀ s ∈ l, s.1 ≤ s.2) (hm : ∀ s ∈ m, s.1 ≤ s.2) (h : ∀ n, cov l n ↔ cov m n) : uni l = uni m := by
  obtain ⟨a, b⟩ := uni_ok hl
  obtain ⟨c, d⟩ := uni_ok hm
  exact norm_uniq _ _ a c fun n => (b n).trans ((h n).trans (d n).symm)
theorem uni_bd {l : List Sp} (h : ∀ t ∈ l, spB t) : ∀ t ∈ uni l, spB t := by
  intro t ht
  have := mgr_bd (isort_bd h) (isort l).length t
  unfold mgr at this
  rw [List.take_length] at this
  exact this (List.mem_reverse.1 ht)
theorem uni_nil_iff {l : List Sp} : uni l = [] ↔ l = [] := by
  constructor
  · intro h
    have h1 : (isort l).foldl mst [] = [] := by
      have : mrg (isort l) = [] := h
      unfold mrg at this
      simpa using this
    have h2 : ∀ (m r : List Sp), m.foldl mst r = [] → m = [] := by
      intro m
      induction m with
      | nil => intros; rfl
      | cons s m ih =>
        intro r hr
        rw [List.foldl_cons] at hr
        have hm := ih _ hr
        subst hm
        exfalso
        cases r with
        | nil => simp [mst] at hr
        | cons t r => by_cases hc : s.1 ≤ t.2 + 1
                      · rw [mst_yes hc] at hr; simp at hr
                      · rw [mst_no hc] at hr; simp at hr
    have h3 := h2 _ _ h1
    cases l with
    | nil => rfl
    | cons s l => exact absurd ((isort_iff (s :: l) s).2 (List.mem_cons_self ..)) (by rw [h3]; exact List.not_mem_nil)
  · rintro rfl; rfl
/-- what two spans have in common -/
def mt (a b : Sp) : List Sp := if max a.1 b.1 ≤ min a.2 b.2 then [(max a.1 b.1, min a.2 b.2)] else []
theorem mt_T {a b : Sp} (h : max a.1 b.1 ≤ min a.2 b.2) : mt a b = [(max a.1 b.1, min a.2 b.2)] := if_pos h
theorem mt_F {a b : Sp} (h : ¬ max a.1 b.1 ≤ min a.2 b.2) : mt a b = [] := if_neg h
/-- what a span and a list have in common -/
def met1 (a : Sp) : List Sp → List Sp
  | [] => []
  | b :: l => mt a b ++ (if a.2 < b.2 then [] else met1 a l)
theorem met1_one (a b : Sp) : met1 a [b] = mt a b := by
  unfold met1; split <;> simp [met1]
theorem met1_go (a : Sp) (R : List Sp) (k : Nat) (h : k < R.length) (hc : ¬ a.2 < (R.getD k sp0).2) : met1 a (R.drop k) = mt a (R.getD k sp0) ++ met1 a (R.drop (k + 1)) := by
  rw [List.drop_eq_getElem_cons h, met1]
  have e : R.getD k sp0 = R[k] := by simp [h]
  rw [← e, if_neg hc]
theorem met1_end (a : Sp) (R : List Sp) (k : Nat) (h : k < R.length) (hc : a.2 < (R.getD k sp0).2) : met1 a (R.drop k) = mt a (R.getD k sp0) := by
  rw [List.drop_eq_getElem_cons h, met1]
  have e : R.getD k sp0 = R[k] := by simp [h]
  rw [← e, if_pos hc, List.append_nil]
theorem mt_len (a b : Sp) : (mt a b).length ≤ 1 := by unfold mt; split <;> simp
theorem met1_len (a : Sp) : ∀ R : List Sp, (met1 a R).length ≤ R.length
  | [] => by simp [met1]
  | b :: l => by
    have h1 := mt_len a b
    have h2 := met1_len a l
    unfold met1
    split
    · simp; omega
    · simp; omega
theorem mt_ok {a b s : Sp} (h : s ∈ mt a b) : s.1 = max a.1 b.1 ∧ s.2 = min a.2 b.2 ∧ s.1 ≤ s.2 := by
  unfold mt at h
  split at h
  · rename_i hc
    obtain rfl := List.mem_singleton.1 h
    exact ⟨rfl, rfl, hc⟩
  · exact absurd h List.not_mem_nil
/-- the days behind a day that are in no span of a list -/
def rst : Int → List Sp → List Sp
  | a, [] => if a ≤ 730499 then [(a, 730499)] else []
  | a, s :: l => (if a < s.1 then [(a, s.1 - 1)] else []) ++ rst (s.2 + 1) l
theorem rst_step (a : Int) (R : List Sp) (k : Nat) (h : k < R.length) : rst a (R.drop k) = (if a < (R.getD k sp0).1 then [(a, (R.getD k sp0).1 - 1)] else []) ++ rst ((R.getD k sp0).2 + 1) (R.drop (k + 1)) := by
  have e : R.getD k sp0 = R[k] := by simp [h]
  rw [List.drop_eq_getElem_cons h, rst, ← e]
theorem rst_end (a : Int) (R : List Sp) : rst a (R.drop R.length) = if a ≤ 730499 then [(a, 730499)] else [] := by rw [List.drop_length, rst]
theorem rst_len : ∀ (l : List Sp) (a : Int), (rst a l).length ≤ l.length + 1
  | [], a => by unfold rst; split <;> simp
  | s :: l, a => by
    have := rst_len l (s.2 + 1)
    unfold rst
    split <;> simp <;> omega
/-- what a span has in common with the spans ahead of it in a list -/
def inn (S : List Sp) (i : Nat) : Nat → List Sp
  | 0 => []
  | k + 1 => inn S i k ++ mt (S.getD i sp0) (S.getD k sp0)
def dis (S : List Sp) : Nat → List Sp
  | 0 => []
  | i + 1 => dis S i ++ inn S i i
def tim (S : List Sp) : Nat → List Sp
  | 0 => []
  | i + 1 => tim S i ++ inn S i (i + 1)
theorem inn_mem {S : List Sp} {i : Nat} {s : Sp} : ∀ {k : Nat}, s ∈ inn S i k → ∃ j, j < k ∧ s ∈ mt (S.getD i sp0) (S.getD j sp0)
  | 0, h => absurd h List.not_mem_nil
  | k + 1, h => by
    rcases List.mem_append.1 h with h | h
    · obtain ⟨j, hj, h⟩ := inn_mem h; exact ⟨j, by omega, h⟩
    · exact ⟨k, by omega, h⟩
theorem dis_mem {S : List Sp} {s : Sp} : ∀ {i : Nat}, s ∈ dis S i → ∃ j k, j < i ∧ k < j ∧ s ∈ mt (S.getD j sp0) (S.getD k sp0)
  | 0, h => absurd h List.not_mem_nil
  | i + 1, h => by
    rcases List.mem_append.1 h with h | h
    · obtain ⟨j, k, hj, hk, h⟩ := dis_mem h; exact ⟨j, k, by omega, hk, h⟩
    · obtain ⟨k, hk, h⟩ := inn_mem h; exact ⟨i, k, by omega, hk, h⟩
theorem tim_mem {S : List Sp} {s : Sp} : ∀ {i : Nat}, s ∈ tim S i → ∃ j k, j < i ∧ k ≤ j ∧ s ∈ mt (S.getD j sp0) (S.getD k sp0)
  | 0, h => absurd h List.not_mem_nil
  | i + 1, h => by
    rcases List.mem_append.1 h with h | h
    · obtain ⟨j, k, hj, hk, h⟩ := tim_mem h; exact ⟨j, k, by omega, hk, h⟩
    · obtain ⟨k, hk, h⟩ := inn_mem h; exact ⟨i, k, by omega, by omega, h⟩
theorem inn_len (S : List Sp) (i : Nat) : ∀ k, (inn S i k).length ≤ k
  | 0 => Nat.le_refl _
  | k + 1 => by
    have := inn_len S i k
    have := mt_len (S.getD i sp0) (S.getD k sp0)
    unfold inn; rw [List.length_append]; omega
theorem sq_le (i : Nat) (h : i ≤ 30) : i * 30 ≤ 900 := by omega
theorem dis_len (S : List Sp) : ∀ i, i ≤ 30 → (dis S i).length ≤ i * 30
  | 0, _ => by simp [dis]
  | i + 1, h => by
    have := dis_len S i (by omega)
    have := inn_len S i i
    unfold dis; simp; omega
theorem tim_len (S : List Sp) : ∀ i, i ≤ 30 → (tim S i).length ≤ i * 30
  | 0, _ => by simp [tim]
  | i + 1, h => by
    have := tim_len S i (by omega)
    have := inn_len S i (i + 1)
    unfold tim; simp; omega
theorem tim_cov {S : List Sp} (hs : ∀ s ∈ S, s.1 ≤ s.2) (n : Int) : cov (tim S S.length) n ↔ cov S n := by
  constructor
  · rintro ⟨s, h, h1, h2⟩
    obtain ⟨j, k, hj, hk, h⟩ := tim_mem h
    obtain ⟨a, b, _⟩ := mt_ok h
    exact ⟨S.getD j sp0, getD_mem hj, by omega, by omega⟩
  · rintro ⟨s, h, h1, h2⟩
    obtain ⟨j, hj, rfl⟩ := List.getElem_of_mem h
    have e : S.getD j sp0 = S[j] := by simp [hj]
    have key : ∀ i, j < i → S[j] ∈ tim S i := by
      intro i
      induction i with
      | zero => intro h; omega
      | succ i ih =>
        intro hji
        by_cases hlt : j < i
        · exact List.mem_append_left _ (ih hlt)
        · obtain rfl : j = i := by omega
          refine List.mem_append_right _ (List.mem_append_right _ ?_)
          have hle := hs _ h
          rw [e, mt_T (by omega)]
          simp only [Int.max_self, Int.min_self]
          exact List.mem_singleton.2 rfl
    exact ⟨S[j], key _ hj, h1, h2⟩
theorem tim_uni {S : List Sp} (hs : ∀ s ∈ S, s.1 ≤ s.2) : uni (tim S S.length) = uni S :=
  uni_same (fun s h => by obtain ⟨j, k, _, _, h⟩ := tim_mem h; exact (mt_ok h).2.2) hs (tim_cov hs)
theorem mt_from {S : List Sp} {j k : Nat} {s : Sp} (hj : j < S.length) (hk : k < S.length) (h : s ∈ mt (S.getD j sp0) (S.getD k sp0)) : s.1 ∈ S.map (·.1) := by
  obtain ⟨a, _, _⟩ := mt_ok h
  rw [a]
  by_cases hc : (S.getD j sp0).1 ≤ (S.getD k sp0).1
  · rw [show max (S.getD j sp0).1 (S.getD k sp0).1 = (S.getD k sp0).1 from by omega]; exact List.mem_map.2 ⟨_, getD_mem hk, rfl⟩
  · rw [show max (S.getD j sp0).1 (S.getD k sp0).1 = (S.getD j sp0).1 from by omega]; exact List.mem_map.2 ⟨_, getD_mem hj, rfl⟩
theorem mt_spB {S : List Sp} (hb : ∀ s ∈ S, spB s) {j k : Nat} {s : Sp} (hj : j < S.length) (hk : k < S.length) (h : s ∈ mt (S.getD j sp0) (S.getD k sp0)) : spB s := by
  obtain ⟨a, b, _⟩ := mt_ok h
  obtain ⟨c1, c2, c3, c4⟩ := hb _ (getD_mem hj)
  obtain ⟨d1, d2, d3, d4⟩ := hb _ (getD_mem hk)
  exact ⟨by omega, by omega, by omega, by omega⟩
end Go.Proofs.YtoadkljaiegnlaaDoor
