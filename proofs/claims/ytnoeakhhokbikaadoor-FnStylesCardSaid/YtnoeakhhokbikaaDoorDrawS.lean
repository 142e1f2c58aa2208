/- Draws of a style, of a year of a style, and of a day. Conditions: how the code and the source lie. -/
import Derived.Test.YtnoeakhhokbikaaDoorDrawR
import Derived.Test.YtnoeakhhokbikaaDoorDrawM
namespace Go.Proofs.YtnoeakhhokbikaaDoor
open Go.RowKit
set_option maxRecDepth 100000 in
theorem d_style (g n c : Nat) (a : Option Addr) (xs : List Int) (w : World) (hS : Src w g a n c xs) : Calls Tryd.prog 48 #[.pointer (some ⟨g, 0, none⟩)] w fun e w' =>
    (∃ y, e = .returned (.int .i64 y) ∧ -1 ≤ y ∧ y ≤ 7) ∧ Src w' g a n c xs ∧ Off g w w' := by
  have con := d_next g n c a xs 30 w hS
  clear hS
  go_enter Tryd.func48, Tryd.ntmps48
  go_wp2_with fail
  refine con.mono ?_
  rintro e w1 ⟨⟨r, rfl, _, hr⟩, hS1, O1⟩
  obtain ⟨r0, r1⟩ := hr (by omega)
  have hg := hS1.lt
  clear hr con
  by_cases h0 : r = 0
  · subst h0
    go_wp2_with fail
    refine (d_pick g n c w1.heap.size 2 a xs [-1, 7] _ (hS1.below (below_alloc _ _)) (by omega) (by simp) (by omega) (by omega) (fun j hj => cellsI (l := [-1, 7]) (Blk.new w1 _ _) j hj)).mono ?_
    rintro e w2 ⟨⟨j, hj, rfl⟩, hS2, O2⟩
    have hv : (-1 : Int) ≤ [(-1 : Int), 7].getD j 0 ∧ [(-1 : Int), 7].getD j 0 ≤ 7 := by
      match j, hj with
      | 0, _ => decide
      | 1, _ => decide
    obtain ⟨v, hvv⟩ : ∃ v, [(-1 : Int), 7].getD j 0 = v := ⟨_, rfl⟩
    rw [hvv] at hv ⊢
    clear hvv hj
    go_wp2_with fail
    go_ret
    exact ⟨⟨v, rfl, hv⟩, hS2, (O1.alloc _).trans O2⟩
  · go_wp2_with fail
    refine (d_next _ _ _ _ _ _ _ hS1).mono ?_
    rintro e w2 ⟨⟨q, rfl, _, hq⟩, hS2, O2⟩
    obtain ⟨q0, q1⟩ := hq (by omega)
    clear hq
    go_wp2_with fail
    go_ret
    exact ⟨⟨q, rfl, by omega, by omega⟩, hS2, O1.trans O2⟩
set_option maxRecDepth 100000 in
theorem d_year6 (g n c : Nat) (a : Option Addr) (xs : List Int) (w : World) (hS : Src w g a n c xs) : Calls Tryd.prog 58 #[.pointer (some ⟨g, 0, none⟩)] w fun e w' =>
    (∃ y, e = .returned (.int .i64 y) ∧ 1 ≤ y ∧ y ≤ 2000) ∧ Src w' g a n c xs ∧ Off g w w' := by
  have con := d_next g n c a xs 24 w hS
  clear hS
  go_enter Tryd.func58, Tryd.ntmps58
  go_wp2_with fail
  refine con.mono ?_
  rintro e w1 ⟨⟨r, rfl, _, hr⟩, hS1, O1⟩
  obtain ⟨r0, r1⟩ := hr (by omega)
  have hg := hS1.lt
  clear hr con
  by_cases h0 : r = 0
  · subst h0
    go_wp2_with fail
    refine (d_pick g n c w1.heap.size 4 a xs [1, 2, 1999, 2000] _ (hS1.below (below_alloc _ _)) (by omega) (by simp) (by omega) (by omega) (fun j hj => cellsI (l := [1, 2, 1999, 2000]) (Blk.new w1 _ _) j hj)).mono ?_
    rintro e w2 ⟨⟨j, hj, rfl⟩, hS2, O2⟩
    have hv : (1 : Int) ≤ [(1 : Int), 2, 1999, 2000].getD j 0 ∧ [(1 : Int), 2, 1999, 2000].getD j 0 ≤ 2000 := by
      match j, hj with
      | 0, _ => decide
      | 1, _ => decide
      | 2, _ => decide
      | 3, _ => decide
    obtain ⟨v, hvv⟩ : ∃ v, [(1 : Int), 2, 1999, 2000].getD j 0 = v := ⟨_, rfl⟩
    rw [hvv] at hv ⊢
    clear hvv hj
    go_wp2_with fail
    go_ret
    exact ⟨⟨v, rfl, hv⟩, hS2, (O1.alloc _).trans O2⟩
  · go_wp2_with fail
    refine (d_next _ _ _ _ _ _ _ hS1).mono ?_
    rintro e w2 ⟨⟨q, rfl, _, hq⟩, hS2, O2⟩
    obtain ⟨q0, q1⟩ := hq (by omega)
    clear hq
    go_wp2_with fail
    go_ret
    exact ⟨⟨1000 + q, rfl, by omega, by omega⟩, hS2, O1.trans O2⟩
end Go.Proofs.YtnoeakhhokbikaaDoor
