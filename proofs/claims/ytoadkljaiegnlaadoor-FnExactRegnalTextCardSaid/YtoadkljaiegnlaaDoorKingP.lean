/- The years of a king, the void and the disputed days, plainly. No condition. -/
import Derived.Test.YtoadkljaiegnlaaDoorRegs
import Derived.Test.YtoadkljaiegnlaaDoorSpanQ
namespace Go.Proofs.YtoadkljaiegnlaaDoor
theorem are_open {rs : List RG} (h : areB rs = true) : rs.length ≤ 30 ∧ ∀ i, i < rs.length → 0 ≤ (rs.getD i rg0).2.1 ∧ (rs.getD i rg0).2.1 ≤ (rs.getD i rg0).2.2 ∧ (rs.getD i rg0).2.2 ≤ 730499 := by
  unfold areB at h
  rw [Bool.and_eq_true, List.all_eq_true] at h
  obtain ⟨h1, h2⟩ := h
  refine ⟨of_decide_eq_true h2, fun i hi => ?_⟩
  have := h1 i (List.mem_range.2 hi)
  unfold okAt at this
  rw [Bool.and_eq_true] at this
  exact reg_open this.1
/-- the spans of the years k of a king's reigns -/
def kyT (rs : List RG) (x : List UInt8) (k : Int) : Nat → List Sp
  | 0 => []
  | j + 1 => if (rs.getD j rg0).1 = x ∧ (rsp (rs.getD j rg0).2.1 (rs.getD j rg0).2.2 k).2 = true then kyT rs x k j ++ [(rsp (rs.getD j rg0).2.1 (rs.getD j rg0).2.2 k).1] else kyT rs x k j
theorem kyT_T {rs : List RG} {x : List UInt8} {k : Int} {j : Nat} (h1 : (rs.getD j rg0).1 = x) (h2 : (rsp (rs.getD j rg0).2.1 (rs.getD j rg0).2.2 k).2 = true) :
    kyT rs x k (j + 1) = kyT rs x k j ++ [(rsp (rs.getD j rg0).2.1 (rs.getD j rg0).2.2 k).1] := by rw [kyT, if_pos ⟨h1, h2⟩]
theorem kyT_x {rs : List RG} {x : List UInt8} {k : Int} {j : Nat} (h1 : ¬ (rs.getD j rg0).1 = x) : kyT rs x k (j + 1) = kyT rs x k j := by rw [kyT, if_neg (fun h => h1 h.1)]
theorem kyT_o {rs : List RG} {x : List UInt8} {k : Int} {j : Nat} (h1 : (rsp (rs.getD j rg0).2.1 (rs.getD j rg0).2.2 k).2 = false) : kyT rs x k (j + 1) = kyT rs x k j := by rw [kyT, if_neg (fun h => by rw [h1] at h; exact absurd h.2 (by decide))]
theorem kyT_len (rs : List RG) (x : List UInt8) (k : Int) : ∀ j, (kyT rs x k j).length ≤ j
  | 0 => Nat.le_refl _
  | j + 1 => by
    have := kyT_len rs x k j
    unfold kyT; split
    · simp; omega
    · omega
theorem rsp_le {f t k : Int} (h0 : 0 ≤ f) (hft : f ≤ t) (ht : t ≤ 730499) (hk : 1 ≤ k) (h : (rsp f t k).2 = true) : spB (rsp f t k).1 ∧ (rsp f t k).1.1 ≤ (rsp f t k).1.2 := by
  obtain ⟨a, b, c, d⟩ := rsp_bd (k := k) h0 hft ht hk
  refine ⟨⟨by omega, by omega, by omega, by omega⟩, ?_⟩
  have hc : k ≤ 2000 ∧ bg f k ≤ t := by
    by_cases hc : k ≤ 2000 ∧ bg f k ≤ t
    · exact hc
    · rw [rsp_none hc] at h; cases h
  rw [rsp_some hc.1 hc.2]
  have := bg_lt f k (k + 1) (by omega)
  show bg f k ≤ min t (bg f (k + 1) - 1)
  omega
theorem kyT_ok {rs : List RG} {x : List UInt8} {k : Int} (h : areB rs = true) (hk : 1 ≤ k) : ∀ j, j ≤ rs.length → ∀ s ∈ kyT rs x k j, spB s ∧ s.1 ≤ s.2
  | 0, _, s, hs => absurd hs List.not_mem_nil
  | j + 1, hj, s, hs => by
    unfold kyT at hs
    split at hs
    · rename_i hc
      rcases List.mem_append.1 hs with hs | hs
      · exact kyT_ok h hk j (by omega) s hs
      · obtain rfl := List.mem_singleton.1 hs
        obtain ⟨a, b, c⟩ := (are_open h).2 j (by omega)
        exact rsp_le a b c hk hc.2
    · exact kyT_ok h hk j (by omega) s hs
/-- the set of the days in a year of a king, and the code -/
def kyF (rs : List RG) (x : List UInt8) (k : Int) : List Sp × Int :=
  if areB rs then (if k < 1 then ([], 2) else if kyT rs x k rs.length = [] then ([], 4) else (uni (kyT rs x k rs.length), 0)) else ([], 1)
theorem kyF_len (rs : List RG) (x : List UInt8) (k : Int) : (kyF rs x k).1.length ≤ 30 := by
  unfold kyF
  split
  · rename_i h
    split
    · simp
    · rename_i hk
      split
      · simp
      · have h2 := (are_open h).1
        have := uni_lenF (l := kyT rs x k rs.length) (F := (kyT rs x k rs.length).map (·.1)) (fun s hs => (kyT_ok h (by omega) _ (Nat.le_refl _) s hs).2) (fun s hs => List.mem_map.2 ⟨s, hs, rfl⟩)
        rw [List.length_map] at this
        have := kyT_len rs x k rs.length
        show (uni _).length ≤ 30
        omega
  · simp
/-- the spans of reigns -/
def spn (rs : List RG) : List Sp := rs.map fun r => r.2
theorem spn_len (rs : List RG) : (spn rs).length = rs.length := by simp [spn]
theorem spn_get (rs : List RG) (i : Nat) : (spn rs).getD i sp0 = (rs.getD i rg0).2 := by
  unfold spn
  rw [List.getD_eq_getElem?_getD, List.getD_eq_getElem?_getD, List.getElem?_map]
  cases rs[i]? <;> rfl
theorem spn_snoc (rs : List RG) (i : Nat) (h : i < rs.length) : (spn rs).take (i + 1) = (spn rs).take i ++ [(rs.getD i rg0).2] := by
  rw [← spn_get rs i]
  exact take_snoc _ _ (by rw [spn_len]; exact h)
theorem spn_ok {rs : List RG} (h : areB rs = true) : ∀ s ∈ spn rs, (0 ≤ s.1 ∧ s.2 ≤ 730499) ∧ s.1 ≤ s.2 := by
  intro s hs
  obtain ⟨i, hi, rfl⟩ := List.getElem_of_mem hs
  have e : (spn rs)[i] = (rs.getD i rg0).2 := by rw [← spn_get rs i]; simp [hi]
  rw [spn_len] at hi
  obtain ⟨a, b, c⟩ := (are_open h).2 i hi
  rw [e]
  exact ⟨⟨a, c⟩, b⟩
theorem spn_bd {rs : List RG} (h : areB rs = true) : ∀ s ∈ spn rs, spB s := fun s hs => by
  obtain ⟨⟨a, b⟩, c⟩ := spn_ok h s hs
  exact ⟨by omega, by omega, by omega, by omega⟩
theorem dis_ok {rs : List RG} (h : areB rs = true) : ∀ s ∈ dis (spn rs) rs.length, spB s ∧ s.1 ≤ s.2 := fun s hs => by
  obtain ⟨j, k, hj, hk, hm⟩ := dis_mem hs
  exact ⟨mt_spB (spn_bd h) (by rw [spn_len]; omega) (by rw [spn_len]; omega) hm, (mt_ok hm).2.2⟩
theorem tim_ok {rs : List RG} (h : areB rs = true) : ∀ s ∈ tim (spn rs) rs.length, spB s ∧ s.1 ≤ s.2 := fun s hs => by
  obtain ⟨j, k, hj, hk, hm⟩ := tim_mem hs
  exact ⟨mt_spB (spn_bd h) (by rw [spn_len]; omega) (by rw [spn_len]; omega) hm, (mt_ok hm).2.2⟩
theorem dis_uni_len {rs : List RG} (h : areB rs = true) : (uni (dis (spn rs) rs.length)).length ≤ 30 := by
  have := uni_lenF (l := dis (spn rs) rs.length) (F := (spn rs).map (·.1)) (fun s hs => (dis_ok h s hs).2) (fun s hs => by
    obtain ⟨j, k, hj, hk, hm⟩ := dis_mem hs
    exact mt_from (by rw [spn_len]; omega) (by rw [spn_len]; omega) hm)
  rw [List.length_map, spn_len] at this
  have := (are_open h).1
  omega
theorem spn_uni_len {rs : List RG} (h : areB rs = true) : (uni (spn rs)).length ≤ 30 := by
  have := uni_lenF (l := spn rs) (F := (spn rs).map (·.1)) (fun s hs => (spn_ok h s hs).2) (fun s hs => List.mem_map.2 ⟨s, hs, rfl⟩)
  rw [List.length_map, spn_len] at this
  have := (are_open h).1
  omega
theorem tim_spn {rs : List RG} (h : areB rs = true) : uni (tim (spn rs) rs.length) = uni (spn rs) := by
  have := tim_uni (S := spn rs) fun s hs => (spn_ok h s hs).2
  rwa [spn_len] at this
/-- the disputed days, and the code -/
def ddF (rs : List RG) : List Sp × Int := if areB rs then (uni (dis (spn rs) rs.length), 0) else ([], 1)
theorem ddF_len (rs : List RG) : (ddF rs).1.length ≤ 30 := by
  unfold ddF; split
  · rename_i h; exact dis_uni_len h
  · simp
/-- the void days of a span, and the code -/
def vdF (rs : List RG) (f t : Int) : List Sp × Int :=
  if areB rs then (if inB f 0 730499 = true ∧ inB t 0 730499 = true ∧ f ≤ t then (met1 (f, t) (rst 0 (uni (spn rs))), 0) else ([], 2)) else ([], 1)
theorem vdF_len (rs : List RG) (f t : Int) : (vdF rs f t).1.length ≤ 31 := by
  unfold vdF; split
  · rename_i h
    split
    · have h1 := spn_uni_len h
      have h2 := rst_len (uni (spn rs)) 0
      have h3 := met1_len (f, t) (rst 0 (uni (spn rs)))
      show (met1 _ _).length ≤ 31
      omega
    · simp
  · simp
end Go.Proofs.YtoadkljaiegnlaaDoor
