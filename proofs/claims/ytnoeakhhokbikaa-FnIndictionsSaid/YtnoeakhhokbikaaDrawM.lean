/- Draws of a year, of a mark, and of a mark with two years. Conditions: how the code and the source lie. -/
import Derived.Test.YtnoeakhhokbikaaDrawR
import Derived.Test.YtnoeakhhokbikaaMarks
import Derived.Deep.RegionHeld3
import Derived.IntWalk
namespace Go.Proofs.Ytnoeakhhokbikaa
open Go.RowKit
theorem Src.undrew' {w : World} {g n c : Nat} {a : Option Addr} {xs : List Int} (h : Src w g a n c xs) : Src w.drew g a n c xs := h
theorem Off.undrew' {g : Nat} {a w : World} (h : Off g a.drew w) : Off g a w := ⟨h.os, h.tape, h.output, h.size, h.block⟩
theorem cellsI {w : World} {b : Nat} {t : TypeId} {l : List Int} (h : Blk w b t ⟨l.map (Value.int .i64)⟩) (j : Nat) (hj : j < l.length) : w.cell? ⟨b, j, none⟩ = some (.int .i64 (l.getD j 0)) := by
  rw [h.cell j]
  simp [hj]
set_option maxRecDepth 100000 in
theorem d_year4 (g n c : Nat) (a : Option Addr) (xs : List Int) (w : World) (hS : Src w g a n c xs) : Calls Try.prog 42 #[.pointer (some ⟨g, 0, none⟩)] w fun e w' =>
    (∃ y, e = .returned (.int .i64 y) ∧ 0 ≤ y ∧ y ≤ 2001) ∧ Src w' g a n c xs ∧ Off g w w' := by
  have con := d_next g n c a xs 20 w hS
  clear hS
  go_enter Try.func42, Try.ntmps42
  go_wp2_with fail
  refine con.mono ?_
  rintro e w1 ⟨⟨r, rfl, _, hr⟩, hS1, O1⟩
  obtain ⟨r0, r1⟩ := hr (by omega)
  have hg := hS1.lt
  clear hr con
  by_cases h0 : r = 0
  · subst h0
    go_wp2_with fail
    refine (d_pick g n c w1.heap.size 6 a xs [0, 1, 1582, 1583, 2000, 2001] _ (hS1.below (below_alloc _ _)) (by omega) (by simp) (by omega) (by omega) (fun j hj => cellsI (l := [0, 1, 1582, 1583, 2000, 2001]) (Blk.new w1 _ _) j hj)).mono ?_
    rintro e w2 ⟨⟨j, hj, rfl⟩, hS2, O2⟩
    have hv : 0 ≤ [(0 : Int), 1, 1582, 1583, 2000, 2001].getD j 0 ∧ [(0 : Int), 1, 1582, 1583, 2000, 2001].getD j 0 ≤ 2001 := by
      match j, hj with
      | 0, _ => decide
      | 1, _ => decide
      | 2, _ => decide
      | 3, _ => decide
      | 4, _ => decide
      | 5, _ => decide
    obtain ⟨v, hvv⟩ : ∃ v, [(0 : Int), 1, 1582, 1583, 2000, 2001].getD j 0 = v := ⟨_, rfl⟩
    rw [hvv] at hv ⊢
    clear hvv hj
    go_wp2_with fail
    go_ret
    exact ⟨⟨v, rfl, hv⟩, hS2, (O1.alloc _).trans O2⟩
  · go_wp2_with fail
    refine (d_next _ _ _ _ _ _ _ hS1).mono ?_
    rintro e w2 ⟨⟨q, rfl, _, hq⟩, hS2, O2⟩
    obtain ⟨q0, q1⟩ := hq (by omega)
    clear hq
    go_wp2_with fail
    go_ret
    exact ⟨⟨1 + q, rfl, by omega, by omega⟩, hS2, O1.trans O2⟩
end Go.Proofs.Ytnoeakhhokbikaa
