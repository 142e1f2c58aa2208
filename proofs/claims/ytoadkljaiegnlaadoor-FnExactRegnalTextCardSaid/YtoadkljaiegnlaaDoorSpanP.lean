/- Lists of spans, plainly: a list whose spans lie apart is told by its days; spans in order of their begin are joined to such a list. No condition. -/
import Derived.Test.YtoadkljaiegnlaaDoorMath
namespace Go.Proofs.YtoadkljaiegnlaaDoor
abbrev Sp := Int × Int
def cov (l : List Sp) (n : Int) : Prop := ∃ s ∈ l, s.1 ≤ n ∧ n ≤ s.2
def norm : List Sp → Prop
  | [] => True
  | s :: l => s.1 ≤ s.2 ∧ (∀ t ∈ l, s.2 + 2 ≤ t.1) ∧ norm l
theorem norm_le : ∀ {l : List Sp}, norm l → ∀ t ∈ l, t.1 ≤ t.2
  | [], _, _, h => absurd h List.not_mem_nil
  | s :: l, hn, t, h => by
    rcases List.mem_cons.1 h with rfl | h
    · exact hn.1
    · exact norm_le hn.2.2 t h
theorem cov_cons {s : Sp} {l : List Sp} {n : Int} : cov (s :: l) n ↔ (s.1 ≤ n ∧ n ≤ s.2) ∨ cov l n := by
  unfold cov; simp
theorem cov_nil {n : Int} : ¬ cov [] n := by unfold cov; simp
theorem cov_app {l m : List Sp} {n : Int} : cov (l ++ m) n ↔ cov l n ∨ cov m n := by
  unfold cov
  constructor
  · rintro ⟨s, hs, h⟩
    rcases List.mem_append.1 hs with hs | hs
    · exact .inl ⟨s, hs, h⟩
    · exact .inr ⟨s, hs, h⟩
  · rintro (⟨s, hs, h⟩ | ⟨s, hs, h⟩)
    · exact ⟨s, List.mem_append_left _ hs, h⟩
    · exact ⟨s, List.mem_append_right _ hs, h⟩
theorem cov_mem {l m : List Sp} (h : ∀ s, s ∈ l ↔ s ∈ m) (n : Int) : cov l n ↔ cov m n := by
  unfold cov
  constructor
  · rintro ⟨s, hs, h'⟩; exact ⟨s, (h s).1 hs, h'⟩
  · rintro ⟨s, hs, h'⟩; exact ⟨s, (h s).2 hs, h'⟩
theorem cov_after {s : Sp} {l : List Sp} (hl : ∀ t ∈ l, s.2 + 2 ≤ t.1) {n : Int} (h : cov l n) : s.2 + 2 ≤ n := by
  obtain ⟨t, ht, h1, _⟩ := h
  have := hl t ht
  omega
theorem norm_head_le {s t : Sp} {l m : List Sp} (hl : norm (s :: l)) (hm : norm (t :: m)) (h : ∀ n, cov (s :: l) n ↔ cov (t :: m) n) : t.1 ≤ s.1 := by
  have c := (h s.1).1 (cov_cons.2 (.inl ⟨by omega, hl.1⟩))
  rcases cov_cons.1 c with ⟨c, _⟩ | c
  · exact c
  · have := cov_after hm.2.1 c
    have := hm.1
    omega
theorem norm_head_ge {s t : Sp} {l m : List Sp} (hl : norm (s :: l)) (h : ∀ n, cov (s :: l) n ↔ cov (t :: m) n) (e : s.1 = t.1) : t.2 ≤ s.2 := by
  by_cases hlt : s.2 < t.2
  · have c := (h (s.2 + 1)).2 (cov_cons.2 (.inl ⟨by have := hl.1; omega, by omega⟩))
    rcases cov_cons.1 c with ⟨_, c⟩ | c
    · omega
    · have := cov_after hl.2.1 c
      omega
  · omega
theorem norm_uniq : ∀ (l m : List Sp), norm l → norm m → (∀ n, cov l n ↔ cov m n) → l = m
  | [], [], _, _, _ => rfl
  | [], t :: m, _, hm, h => absurd ((h t.1).2 (cov_cons.2 (.inl ⟨by omega, hm.1⟩))) cov_nil
  | s :: l, [], hl, _, h => absurd ((h s.1).1 (cov_cons.2 (.inl ⟨by omega, hl.1⟩))) cov_nil
  | s :: l, t :: m, hl, hm, h => by
    have h' := fun n => (h n).symm
    have a1 := norm_head_le hl hm h
    have a2 := norm_head_le hm hl h'
    have e1 : s.1 = t.1 := by omega
    have b1 := norm_head_ge hl h e1
    have b2 := norm_head_ge hm h' e1.symm
    have e2 : s.2 = t.2 := by omega
    have e : s = t := Prod.ext e1 e2
    subst e
    have : l = m := norm_uniq l m hl.2.2 hm.2.2 fun n => by
      constructor
      · intro c
        have hc := cov_after hl.2.1 c
        rcases cov_cons.1 ((h n).1 (cov_cons.2 (.inr c))) with ⟨_, d⟩ | d
        · omega
        · exact d
      · intro c
        have hc := cov_after hm.2.1 c
        rcases cov_cons.1 ((h n).2 (cov_cons.2 (.inr c))) with ⟨_, d⟩ | d
        · omega
        · exact d
    rw [this]
/-- one span more, the list being told from its end -/
def mst : List Sp → Sp → List Sp
  | [], s => [s]
  | t :: r, s => if s.1 ≤ t.2 + 1 then (t.1, max t.2 s.2) :: r else s :: t :: r
theorem mst_yes {t s : Sp} {r : List Sp} (h : s.1 ≤ t.2 + 1) : mst (t :: r) s = (t.1, max t.2 s.2) :: r := by simp only [mst, if_pos h]
theorem mst_no {t s : Sp} {r : List Sp} (h : ¬ s.1 ≤ t.2 + 1) : mst (t :: r) s = s :: t :: r := by simp only [mst, if_neg h]
def rnorm : List Sp → Prop
  | [] => True
  | s :: l => s.1 ≤ s.2 ∧ (∀ t ∈ l, t.2 + 2 ≤ s.1) ∧ rnorm l
theorem norm_snoc : ∀ {l : List Sp} {s : Sp}, norm l → s.1 ≤ s.2 → (∀ t ∈ l, t.2 + 2 ≤ s.1) → norm (l ++ [s])
  | [], s, _, h, _ => ⟨h, by simp, trivial⟩
  | u :: l, s, hl, h, ha => by
    refine ⟨hl.1, ?_, norm_snoc hl.2.2 h fun t ht => ha t (List.mem_cons_of_mem _ ht)⟩
    intro t ht
    rcases List.mem_append.1 ht with ht | ht
    · exact hl.2.1 t ht
    · obtain rfl : t = s := by simpa using ht
      exact ha u (List.mem_cons_self ..)
theorem norm_rev : ∀ {l : List Sp}, rnorm l → norm l.reverse
  | [], _ => trivial
  | s :: l, h => by
    rw [List.reverse_cons]
    exact norm_snoc (norm_rev h.2.2) h.1 fun t ht => h.2.1 t (List.mem_reverse.1 ht)
theorem mst_ok {r : List Sp} {s : Sp} (hr : rnorm r) (hs : s.1 ≤ s.2) (ho : ∀ t ∈ r, t.1 ≤ s.1) :
    rnorm (mst r s) ∧ (∀ n, cov (mst r s) n ↔ cov r n ∨ (s.1 ≤ n ∧ n ≤ s.2)) ∧ (∀ u, s.1 ≤ u → ∀ t ∈ mst r s, t.1 ≤ u) := by
  cases r with
  | nil =>
    refine ⟨⟨hs, by simp, trivial⟩, fun n => ?_, ?_⟩
    · show cov [s] n ↔ _
      rw [cov_cons]; simp [cov_nil]
    · intro u hu t ht
      obtain rfl : t = s := by simpa [mst] using ht
      exact hu
  | cons t r =>
    have ht := ho t (List.mem_cons_self ..)
    by_cases h : s.1 ≤ t.2 + 1
    · rw [mst_yes h]
      refine ⟨⟨?_, ?_, hr.2.2⟩, fun n => ?_, ?_⟩
      · have := hr.1; show t.1 ≤ max t.2 s.2; omega
      · intro u hu; exact hr.2.1 u hu
      · rw [cov_cons, cov_cons]
        show (t.1 ≤ n ∧ n ≤ max t.2 s.2) ∨ cov r n ↔ _
        constructor
        · rintro (⟨c1, c2⟩ | c)
          · by_cases hn : n ≤ t.2
            · exact .inl (.inl ⟨c1, hn⟩)
            · exact .inr ⟨by omega, by omega⟩
          · exact .inl (.inr c)
        · rintro ((⟨c1, c2⟩ | c) | ⟨c1, c2⟩)
          · exact .inl ⟨c1, by omega⟩
          · exact .inr c
          · exact .inl ⟨by omega, by omega⟩
      · intro u hu v hv
        rcases List.mem_cons.1 hv with rfl | hv
        · show t.1 ≤ u; omega
        · have := ho v (List.mem_cons_of_mem _ hv); omega
    · rw [mst_no h]
      refine ⟨⟨hs, ?_, hr⟩, fun n => ?_, ?_⟩
      · intro u hu
        rcases List.mem_cons.1 hu with rfl | hu
        · omega
        · have := hr.2.1 u hu
          have := hr.1
          omega
      · rw [cov_cons]; constructor
        · rintro (c | c)
          · exact .inr c
          · exact .inl c
        · rintro (c | c)
          · exact .inr c
          · exact .inl c
      · intro u hu v hv
        rcases List.mem_cons.1 hv with rfl | hv
        · exact hu
        · have := ho v hv; omega
def mrg (l : List Sp) : List Sp := (l.foldl mst []).reverse
theorem fold_ok : ∀ (l r : List Sp), rnorm r → (∀ s ∈ l, s.1 ≤ s.2) → l.Pairwise (fun a b => a.1 ≤ b.1) → (∀ s ∈ l, ∀ t ∈ r, t.1 ≤ s.1) →
    rnorm (l.foldl mst r) ∧ (∀ n, cov (l.foldl mst r) n ↔ cov r n ∨ cov l n)
  | [], r, hr, _, _, _ => ⟨hr, fun n => by simp [cov_nil]⟩
  | s :: l, r, hr, hs, hp, ho => by
    rw [List.pairwise_cons] at hp
    obtain ⟨a, b, c⟩ := mst_ok hr (hs s (List.mem_cons_self ..)) (ho s (List.mem_cons_self ..))
    obtain ⟨d, e⟩ := fold_ok l (mst r s) a (fun u hu => hs u (List.mem_cons_of_mem _ hu)) hp.2 (fun u hu t ht => c u.1 (hp.1 u hu) t ht)
    refine ⟨d, fun n => ?_⟩
    rw [List.foldl_cons, e n, b n, cov_cons, or_assoc]
theorem mrg_ok {l : List Sp} (hs : ∀ s ∈ l, s.1 ≤ s.2) (hp : l.Pairwise (fun a b => a.1 ≤ b.1)) : norm (mrg l) ∧ ∀ n, cov (mrg l) n ↔ cov l n := by
  obtain ⟨a, b⟩ := fold_ok l [] trivial hs hp (fun _ _ t ht => absurd ht List.not_mem_nil)
  refine ⟨norm_rev a, fun n => ?_⟩
  unfold mrg
  rw [cov_mem (fun s => List.mem_reverse) n, b n]
  simp [cov_nil]
/-- a span laid among others, behind those that begin as early -/
def ins (s : Sp) : List Sp → List Sp
  | [] => [s]
  | t :: l => if t.1 ≤ s.1 then t :: ins s l else s :: t :: l
def isort (l : List Sp) : List Sp := l.foldl (fun r s => ins s r) []
theorem ins_mem (s : Sp) : ∀ (l : List Sp) (u : Sp), u ∈ ins s l ↔ u = s ∨ u ∈ l
  | [], u => by simp [ins]
  | t :: l, u => by
    unfold ins
    split
    · rw [List.mem_cons, ins_mem s l u, List.mem_cons]
      constructor
      · rintro (h | h | h)
        · exact .inr (.inl h)
        · exact .inl h
        · exact .inr (.inr h)
      · rintro (h | h | h)
        · exact .inr (.inl h)
        · exact .inl h
        · exact .inr (.inr h)
    · simp
theorem ins_pw (s : Sp) : ∀ (l : List Sp), l.Pairwise (fun a b => a.1 ≤ b.1) → (ins s l).Pairwise (fun a b => a.1 ≤ b.1)
  | [], _ => by simp [ins]
  | t :: l, h => by
    rw [List.pairwise_cons] at h
    unfold ins
    split
    · rename_i hle
      rw [List.pairwise_cons]
      refine ⟨fun u hu => ?_, ins_pw s l h.2⟩
      rcases (ins_mem s l u).1 hu with rfl | hu
      · exact hle
      · exact h.1 u hu
    · rename_i hgt
      rw [List.pairwise_cons]
      refine ⟨fun u hu => ?_, List.pairwise_cons.2 h⟩
      rcases List.mem_cons.1 hu with rfl | hu
      · omega
      · have := h.1 u hu; omega
theorem isort_ok : ∀ (l r : List Sp), r.Pairwise (fun a b => a.1 ≤ b.1) → (l.foldl (fun r s => ins s r) r).Pairwise (fun a b => a.1 ≤ b.1) ∧ ∀ u, u ∈ l.foldl (fun r s => ins s r) r ↔ u ∈ r ∨ u ∈ l
  | [], r, h => ⟨h, fun u => by simp⟩
  | s :: l, r, h => by
    obtain ⟨a, b⟩ := isort_ok l (ins s r) (ins_pw s r h)
    refine ⟨a, fun u => ?_⟩
    rw [List.foldl_cons, b u, ins_mem, List.mem_cons]
    constructor
    · rintro ((h | h) | h)
      · exact .inr (.inl h)
      · exact .inl h
      · exact .inr (.inr h)
    · rintro (h | h | h)
      · exact .inl (.inr h)
      · exact .inl (.inl h)
      · exact .inr h
/-- the set of all days of spans -/
def uni (l : List Sp) : List Sp := mrg (isort l)
theorem uni_ok {l : List Sp} (hs : ∀ s ∈ l, s.1 ≤ s.2) : norm (uni l) ∧ ∀ n, cov (uni l) n ↔ cov l n := by
  obtain ⟨a, b⟩ := isort_ok l [] List.Pairwise.nil
  have b' : ∀ u, u ∈ isort l ↔ u ∈ l := fun u => by unfold isort; rw [b u]; simp
  obtain ⟨c, d⟩ := mrg_ok (l := isort l) (fun s h => hs s ((b' s).1 h)) a
  exact ⟨c, fun n => (d n).trans (cov_mem b' n)⟩
/-- however the spans are put in order -/
theorem mrg_uni {l m : List Sp} (hs : ∀ s ∈ l, s.1 ≤ s.2) (hm : ∀ s, s ∈ m ↔ s ∈ l) (hp : m.Pairwise (fun a b => a.1 ≤ b.1)) : mrg m = uni l := by
  obtain ⟨a, b⟩ := mrg_ok (l := m) (fun s h => hs s ((hm s).1 h)) hp
  obtain ⟨c, d⟩ := uni_ok hs
  exact norm_uniq _ _ a c fun n => (b n).trans ((cov_mem hm n).trans (d n).symm)
end Go.Proofs.YtoadkljaiegnlaaDoor
