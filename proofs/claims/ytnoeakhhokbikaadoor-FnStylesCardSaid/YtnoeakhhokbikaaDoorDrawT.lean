/- Draws of a day, of a kind of indiction and of a number of a style. Conditions: how the code and the source lie. -/
import Derived.Test.YtnoeakhhokbikaaDoorDrawM
namespace Go.Proofs.YtnoeakhhokbikaaDoor
open Go.RowKit
set_option maxRecDepth 100000 in
theorem d_day1 (g n c : Nat) (a : Option Addr) (xs : List Int) (w : World) (hS : Src w g a n c xs) : Calls Tryd.prog 51 #[.pointer (some ⟨g, 0, none⟩)] w fun e w' =>
    (∃ y, e = .returned (.int .i64 y) ∧ -1 ≤ y ∧ y ≤ 730500) ∧ Src w' g a n c xs ∧ Off g w w' := by
  have con := d_next g n c a xs 16 w hS
  clear hS
  go_enter Tryd.func51, Tryd.ntmps51
  go_wp2_with fail
  refine con.mono ?_
  rintro e w1 ⟨⟨r, rfl, _, hr⟩, hS1, O1⟩
  obtain ⟨r0, r1⟩ := hr (by omega)
  have hg := hS1.lt
  clear hr con
  by_cases h0 : r = 0
  · subst h0
    go_wp2_with fail
    refine (d_pick g n c w1.heap.size 7 a xs [-1, 0, 1, 2, 730498, 730499, 730500] _ (hS1.below (below_alloc _ _)) (by omega) (by simp) (by omega) (by omega) (fun j hj => cellsI (l := [-1, 0, 1, 2, 730498, 730499, 730500]) (Blk.new w1 _ _) j hj)).mono ?_
    rintro e w2 ⟨⟨j, hj, rfl⟩, hS2, O2⟩
    have hv : -1 ≤ [(-1 : Int), 0, 1, 2, 730498, 730499, 730500].getD j 0 ∧ [(-1 : Int), 0, 1, 2, 730498, 730499, 730500].getD j 0 ≤ 730500 := by
      match j, hj with
      | 0, _ => decide
      | 1, _ => decide
      | 2, _ => decide
      | 3, _ => decide
      | 4, _ => decide
      | 5, _ => decide
      | 6, _ => decide
    obtain ⟨v, hvv⟩ : ∃ v, [(-1 : Int), 0, 1, 2, 730498, 730499, 730500].getD j 0 = v := ⟨_, rfl⟩
    rw [hvv] at hv ⊢
    clear hvv hj
    go_wp2_with fail
    go_ret
    exact ⟨⟨v, rfl, by omega, by omega⟩, hS2, (O1.alloc _).trans O2⟩
  · go_wp2_with fail
    refine (d_next _ _ _ _ _ _ _ hS1).mono ?_
    rintro e w2 ⟨⟨q, rfl, _, hq⟩, hS2, O2⟩
    obtain ⟨q0, q1⟩ := hq (by omega)
    clear hq
    go_wp2_with fail
    go_ret
    exact ⟨⟨q, rfl, by omega, by omega⟩, hS2, O1.trans O2⟩
set_option maxRecDepth 100000 in
theorem d_StyleName (a : Option Addr) (n c : Nat) (xs : List Int) (w : World) (hI : InB w a n xs) (hn : n ≤ 4096) (hx : ∀ i, 0 ≤ xs.getD i 0 ∧ xs.getD i 0 ≤ 255) : Calls Tryd.prog 20 #[.slice a n c] w fun e w' =>
    (∃ y, e = .returned (.int .i64 y) ∧ -1 ≤ y ∧ y ≤ 7) ∧ Below w.heap.size w w' := by
  have con := d_from a n c xs w hI hn hx
  clear hI hn hx
  go_enter Tryd.func20, Tryd.ntmps20
  go_wp2_with fail
  refine con.mono ?_
  rintro e w1 ⟨rfl, hS1, L1⟩
  clear con
  go_wp2_with fail
  refine (d_next _ _ _ _ _ _ _ hS1).mono ?_
  rintro e w2 ⟨⟨y, rfl, _, hy⟩, _, O⟩
  obtain ⟨y0, y1⟩ := hy (by omega)
  clear hy
  go_wp2_with fail
  go_ret
  exact ⟨⟨y - 1, rfl, by omega, by omega⟩, Off.below L1 O L1.size (Nat.le_refl _)⟩
end Go.Proofs.YtnoeakhhokbikaaDoor
