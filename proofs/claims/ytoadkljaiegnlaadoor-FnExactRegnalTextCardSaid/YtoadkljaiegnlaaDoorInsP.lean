/- Lists of spans, plainly: a span laid at a place, and the bounds of united spans. No condition. -/
import Derived.Test.YtoadkljaiegnlaaDoorPRow
import Derived.Test.YtoadkljaiegnlaaDoorIndP
namespace Go.Proofs.YtoadkljaiegnlaaDoor
def insAt (q : Nat) (s : Sp) (S : List Sp) : List Sp := S.take q ++ s :: S.drop q
theorem insAt_len (q : Nat) (s : Sp) (S : List Sp) : (insAt q s S).length = S.length + 1 := by
  simp only [insAt, List.length_append, List.length_cons, List.length_take, List.length_drop]; omega
theorem insAt_end (s : Sp) (S : List Sp) : S ++ [s] = insAt S.length s S := by simp [insAt]
theorem insAt_set (q : Nat) (x y : Sp) (S : List Sp) (h : q ≤ S.length) : (insAt q x S).set q y = insAt q y S := by
  unfold insAt
  rw [List.set_append_right _ _ (by simp; omega)]
  simp [Nat.min_eq_left h]
theorem insAt_back (q : Nat) (x : Sp) (S : List Sp) (h : q + 1 ≤ S.length) : (insAt (q + 1) x S).set (q + 1) (S.getD q sp0) = insAt q (S.getD q sp0) S := by
  rw [insAt_set _ _ _ _ h]
  have hq : q < S.length := by omega
  have e : S.getD q sp0 = S[q] := by simp [hq]
  unfold insAt
  rw [e, List.take_succ_eq_append_getElem hq, List.append_assoc, List.singleton_append, ← List.drop_eq_getElem_cons hq]
theorem insAt_get (q : Nat) (x : Sp) (S : List Sp) (h : q + 1 ≤ S.length) : (insAt (q + 1) x S).getD q sp0 = S.getD q sp0 := by
  unfold insAt
  rw [List.getD_eq_getElem?_getD, List.getElem?_append_left (by simp; omega), List.getD_eq_getElem?_getD]
  simp
theorem ins_at (s : Sp) : ∀ (q : Nat) (S : List Sp), q ≤ S.length → (∀ j, j < q → (S.getD j sp0).1 ≤ s.1) → (q < S.length → s.1 < (S.getD q sp0).1) → ins s S = insAt q s S
  | 0, [], _, _, _ => rfl
  | 0, t :: S, _, _, h => by
    have := h (by simp)
    simp at this
    unfold ins insAt
    rw [if_neg (by omega)]; simp
  | q + 1, [], h, _, _ => absurd h (by simp)
  | q + 1, t :: S, h, h1, h2 => by
    have a := h1 0 (by omega)
    simp at a
    have ih := ins_at s q S (by simpa using h) (fun j hj => by simpa using h1 (j + 1) (by omega)) (fun hq => by simpa using h2 (by simpa using hq))
    unfold ins
    rw [if_pos a, ih]
    simp [insAt]
theorem take_snoc (l : List Sp) (k : Nat) (h : k < l.length) : l.take (k + 1) = l.take k ++ [l.getD k sp0] := by
  rw [List.take_succ_eq_append_getElem h]; simp [h]
def isr (l : List Sp) (k : Nat) : List Sp := (l.take k).foldl (fun r s => ins s r) []
theorem isr_succ (l : List Sp) (k : Nat) (h : k < l.length) : isr l (k + 1) = ins (l.getD k sp0) (isr l k) := by
  unfold isr; rw [take_snoc l k h, List.foldl_append]; rfl
theorem isr_len (l : List Sp) (k : Nat) (h : k ≤ l.length) : (isr l k).length = k := by
  unfold isr; rw [isort_len]; simp; omega
theorem isr_all (l : List Sp) : isr l l.length = isort l := by unfold isr isort; simp
def mgr (l : List Sp) (k : Nat) : List Sp := (l.take k).foldl mst []
theorem mgr_succ (l : List Sp) (k : Nat) (h : k < l.length) : mgr l (k + 1) = mst (mgr l k) (l.getD k sp0) := by
  unfold mgr; rw [take_snoc l k h, List.foldl_append]; rfl
theorem mgr_all (l : List Sp) : (mgr l l.length).reverse = mrg l := by unfold mgr mrg; simp
theorem mgr_len (l : List Sp) (k : Nat) : (mgr l k).length ≤ k := by
  have := fold_len (l.take k) []
  unfold mgr
  simp at this; omega
/-- spans of numbers that a day can have -/
def spB (s : Sp) : Prop := -1 ≤ s.1 ∧ s.1 ≤ 1000000 ∧ -1 ≤ s.2 ∧ s.2 ≤ 1000000
theorem mst_bd {r : List Sp} {s : Sp} (hr : ∀ t ∈ r, spB t) (hs : spB s) : ∀ t ∈ mst r s, spB t := by
  cases r with
  | nil => intro t ht; simp [mst] at ht; subst ht; exact hs
  | cons u r =>
    have hu := hr u (List.mem_cons_self ..)
    by_cases h : s.1 ≤ u.2 + 1
    · rw [mst_yes h]
      intro t ht
      rcases List.mem_cons.1 ht with rfl | ht
      · obtain ⟨a, b, c, d⟩ := hu
        obtain ⟨a', b', c', d'⟩ := hs
        exact ⟨a, b, by show -1 ≤ max u.2 s.2; omega, by show max u.2 s.2 ≤ 1000000; omega⟩
      · exact hr t (List.mem_cons_of_mem _ ht)
    · rw [mst_no h]
      intro t ht
      rcases List.mem_cons.1 ht with rfl | ht
      · exact hs
      · exact hr t ht
theorem mgr_bd {l : List Sp} (h : ∀ t ∈ l, spB t) : ∀ (k : Nat), ∀ t ∈ mgr l k, spB t := by
  intro k
  induction k with
  | zero => intro t ht; simp [mgr] at ht
  | succ k ih =>
    by_cases hk : k < l.length
    · rw [mgr_succ l k hk]
      refine mst_bd ih (h _ ?_)
      simp [hk]
    · intro t ht
      refine ih t ?_
      unfold mgr at ht ⊢
      rwa [List.take_of_length_le (by omega), ← List.take_of_length_le (show l.length ≤ k by omega)] at ht
theorem isort_bd {l : List Sp} (h : ∀ t ∈ l, spB t) : ∀ t ∈ isort l, spB t := fun t ht => h t (by
  have := ((isort_ok l [] List.Pairwise.nil).2 t).1 ht
  simpa using this)
theorem getD_mem {l : List Sp} {j : Nat} (h : j < l.length) : l.getD j sp0 ∈ l := by simp [h]
theorem ins_len' (s : Sp) (l : List Sp) : (ins s l).length = l.length + 1 := ins_len s l
end Go.Proofs.YtoadkljaiegnlaaDoor
