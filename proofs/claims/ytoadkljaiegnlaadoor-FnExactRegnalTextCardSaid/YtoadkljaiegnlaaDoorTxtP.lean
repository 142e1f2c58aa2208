/- The text of the reigns of a day, plainly. No condition. -/
import Derived.Test.YtoadkljaiegnlaaDoorRegOn
import Derived.Test.YtoadkljaiegnlaaDoorRegY
import Derived.Lib.Join
import Derived.Lib.ItoaMem
import Derived.Lib.ItoaLen
namespace Go.Proofs.YtoadkljaiegnlaaDoor
/-- one reign's word: the year in decimal, a blank, the king -/
def wdT (rs : List RG) (m : Int) (i : Int) : List UInt8 := Lib.decDigits (ky (rs.getD i.toNat rg0).2.1 m).toNat ++ ([32] ++ (rs.getD i.toNat rg0).1)
def wdsT (rs : List RG) (m : Int) (l : List Int) : List (List UInt8) := l.map (wdT rs m)
theorem wdsT_snoc (rs : List RG) (m : Int) (l : List Int) (k : Nat) (h : k < l.length) : wdsT rs m (l.take (k + 1)) = wdsT rs m (l.take k) ++ [wdT rs m (l.getD k 0)] := by
  unfold wdsT
  rw [List.take_succ_eq_append_getElem h, List.map_append]
  simp [h]
theorem onK_mem {rs : List RG} {m : Int} : ∀ {k : Nat} {x : Int}, x ∈ onK rs m k → ∃ j : Nat, j < k ∧ x = j ∧ inB m (rs.getD j rg0).2.1 (rs.getD j rg0).2.2 = true
  | 0, x, h => by simp [onK] at h
  | k + 1, x, h => by
    cases hb : inB m (rs.getD k rg0).2.1 (rs.getD k rg0).2.2 with
    | false =>
      rw [onK_F hb] at h
      obtain ⟨j, hj, e⟩ := onK_mem h
      exact ⟨j, by omega, e⟩
    | true =>
      rw [onK_T hb] at h
      rcases List.mem_append.1 h with h | h
      · obtain ⟨j, hj, e⟩ := onK_mem h
        exact ⟨j, by omega, e⟩
      · exact ⟨k, by omega, List.mem_singleton.1 h, hb⟩
theorem getD_memI {l : List Int} {j : Nat} (h : j < l.length) : l.getD j 0 ∈ l := by
  rw [List.getD_eq_getElem?_getD, List.getElem?_eq_getElem h]; exact List.getElem_mem h
/-- the j-th reign of a day -/
theorem onK_at {rs : List RG} {m : Int} {k j : Nat} (h : j < (onK rs m k).length) : ∃ i : Nat, i < k ∧ (onK rs m k).getD j 0 = i ∧ (rs.getD i rg0).2.1 ≤ m ∧ m ≤ (rs.getD i rg0).2.2 := by
  obtain ⟨i, hi, e, hb⟩ := onK_mem (getD_memI h)
  unfold inB at hb
  simp only [decide_eq_true_eq] at hb
  exact ⟨i, hi, e, hb.1, hb.2⟩
theorem wdT_at (rs : List RG) (m : Int) (i : Nat) : wdT rs m i = Lib.decDigits (ky (rs.getD i rg0).2.1 m).toNat ++ ([32] ++ (rs.getD i rg0).1) := rfl
/-- the text, and the code -/
def txF (rs : List RG) (m : Int) : List UInt8 × Int :=
  if areB rs then (if inB m 0 730499 then ((if onK rs m rs.length = [] then [45] else Lib.join (wdsT rs m (onK rs m rs.length)) [44]), 0) else ([], 2)) else ([], 1)
theorem wdT_len {rs : List RG} {m : Int} {x : Int} (hk : ∀ i : Nat, (rs.getD i rg0).1.length ≤ 12) (h1 : 1 ≤ ky (rs.getD x.toNat rg0).2.1 m) (h2 : ky (rs.getD x.toNat rg0).2.1 m ≤ 2000) : (wdT rs m x).length ≤ 40 := by
  unfold wdT
  have h3 : (Lib.decDigits (ky (rs.getD x.toNat rg0).2.1 m).toNat).length ≤ 20 := by rw [Lib.decDigits_length]; exact Lib.nDigits_le20 _ (by omega)
  have := hk x.toNat
  simp only [List.length_append, List.length_cons, List.length_nil]
  omega
end Go.Proofs.YtoadkljaiegnlaaDoor
