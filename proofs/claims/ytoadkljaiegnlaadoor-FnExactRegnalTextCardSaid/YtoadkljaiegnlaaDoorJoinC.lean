/- strings.Join of few short texts with one letter between. Conditions: few short texts; how they lie. -/
import Derived.Test.YtoadkljaiegnlaaDoorJoin
import Derived.Test.YtoadkljaiegnlaaDoorShelf
namespace Go.Proofs.YtoadkljaiegnlaaDoor
open Go.RowKit Go.Shelf
theorem c_join {b : Nat} {v : Value} {xs : List (List UInt8)} (ch : UInt8) (w : World) (h : OwnS w b v xs) (hn : xs.length ≤ 1000) (hM : ∀ i, (xs.getD i []).length ≤ 1000) :
    Calls Tryd.prog 40 #[v, .string ⟨#[ch]⟩] w fun e w' => e = .returned (.string ⟨(Lib.join xs [ch]).toArray⟩) ∧ Below w.heap.size w w' := by
  obtain ⟨hl, A, c, hv, p⟩ := h.opened
  by_cases h0 : 0 < xs.length
  · obtain ⟨g, cc, rfl, _, hg, hcc, _, hcell, _⟩ := h.openedC h0
    have hlj := join_len1 xs ch 1000 hM xs.length (Nat.le_refl _)
    rw [List.take_length] at hlj
    have hmul : 1001 * xs.length ≤ 1001 * 1000 := Nat.mul_le_mul_left _ hn
    have e1 : (xs.map fun x => (⟨x.toArray⟩ : ByteArray)).map (·.data.toList) = xs := by rw [List.map_map]; exact (List.map_congr_left fun x _ => by simp).trans (List.map_id _)
    have key := Tryd.strings_Join g 0 cc (xs.map fun x => (⟨x.toArray⟩ : ByteArray)) ⟨#[ch]⟩ w (fun j x hx => by
      rw [List.getElem?_map, Option.map_eq_some_iff] at hx
      obtain ⟨y, hy, rfl⟩ := hx
      have hj := (List.getElem?_eq_some_iff.1 hy).1
      rw [Nat.zero_add, hcell j hj, List.getD_eq_getElem?_getD, hy]; rfl) hg (by simp; omega) (by simpa using hcc) (by rw [e1]; show (Lib.join xs [ch]).length ≤ _; omega)
    rw [e1, List.length_map] at key
    exact key
  · have : xs = [] := List.eq_nil_of_length_eq_zero (by omega)
    subst this
    subst hv
    refine (Tryd.strings_Join_none A c ⟨#[ch]⟩ w).mono fun e w' ⟨he, hw⟩ => ⟨he, by rw [hw]; exact Below.refl _ _⟩
end Go.Proofs.YtoadkljaiegnlaaDoor
