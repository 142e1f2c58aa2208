/- Draws of a style, of a year of a style, and of a day. Conditions: how the code and the source lie. -/
import Derived.Test.YtffpaedhdjnbjaaDrawR
import Derived.Test.YtffpaedhdjnbjaaDrawM
namespace Go.Proofs.Ytffpaedhdjnbjaa
open Go.RowKit
set_option maxRecDepth 100000 in
theorem d_style (g n c : Nat) (a : Option Addr) (xs : List Int) (w : World) (hS : Src w g a n c xs) : Calls Try.prog 71 #[.pointer (some ⟨g, 0, none⟩)] w fun e w' =>
    (∃ y, e = .returned (.int .i64 y) ∧ -1 ≤ y ∧ y ≤ 7) ∧ Src w' g a n c xs ∧ Off g w w' := by
  have con := d_next g n c a xs 30 w hS
  clear hS
  go_enter Try.func71, Try.ntmps71
  go_wp2_with fail
  refine con.mono ?_
  rintro e w1 ⟨⟨r, rfl, _, hr⟩, hS1, O1⟩
  obtain ⟨r0, r1⟩ := hr (by omega)
  have hg := hS1.lt
  clear hr con
  by_cases h0 : r = 0
  · subst h0
    go_wp2_with fail
    refine (d_pick g n c w1.heap.size 2 a xs [-1, 7] _ (hS1.below (below_alloc _ _)) (by omega) (by simp) (by omega) (by omega) (fun j hj => cellsI (l := [-1, 7]) (Blk.new w1 _ _) j hj)).mono ?_
    rintro e w2 ⟨⟨j, hj, rfl⟩, hS2, O2⟩
    have hv : (-1 : Int) ≤ [(-1 : Int), 7].getD j 0 ∧ [(-1 : Int), 7].getD j 0 ≤ 7 := by
      match j, hj with
      | 0, _ => decide
      | 1, _ => decide
    obtain ⟨v, hvv⟩ : ∃ v, [(-1 : Int), 7].getD j 0 = v := ⟨_, rfl⟩
    rw [hvv] at hv ⊢
    clear hvv hj
    go_wp2_with fail
    go_ret
    exact ⟨⟨v, rfl, hv⟩, hS2, (O1.alloc _).trans O2⟩
  · go_wp2_with fail
    refine (d_next _ _ _ _ _ _ _ hS1).mono ?_
    rintro e w2 ⟨⟨q, rfl, _, hq⟩, hS2, O2⟩
    obtain ⟨q0, q1⟩ := hq (by omega)
    clear hq
    go_wp2_with fail
    go_ret
    exact ⟨⟨q, rfl, by omega, by omega⟩, hS2, O1.trans O2⟩
set_option maxRecDepth 100000 in
theorem d_year6 (g n c : Nat) (a : Option Addr) (xs : List Int) (w : World) (hS : Src w g a n c xs) : Calls Try.prog 70 #[.pointer (some ⟨g, 0, none⟩)] w fun e w' =>
    (∃ y, e = .returned (.int .i64 y) ∧ 1 ≤ y ∧ y ≤ 2000) ∧ Src w' g a n c xs ∧ Off g w w' := by
  have con := d_next g n c a xs 24 w hS
  clear hS
  go_enter Try.func70, Try.ntmps70
  go_wp2_with fail
  refine con.mono ?_
  rintro e w1 ⟨⟨r, rfl, _, hr⟩, hS1, O1⟩
  obtain ⟨r0, r1⟩ := hr (by omega)
  have hg := hS1.lt
  clear hr con
  by_cases h0 : r = 0
  · subst h0
    go_wp2_with fail
    refine (d_pick g n c w1.heap.size 4 a xs [1, 2, 1999, 2000] _ (hS1.below (below_alloc _ _)) (by omega) (by simp) (by omega) (by omega) (fun j hj => cellsI (l := [1, 2, 1999, 2000]) (Blk.new w1 _ _) j hj)).mono ?_
    rintro e w2 ⟨⟨j, hj, rfl⟩, hS2, O2⟩
    have hv : (1 : Int) ≤ [(1 : Int), 2, 1999, 2000].getD j 0 ∧ [(1 : Int), 2, 1999, 2000].getD j 0 ≤ 2000 := by
      match j, hj with
      | 0, _ => decide
      | 1, _ => decide
      | 2, _ => decide
      | 3, _ => decide
    obtain ⟨v, hvv⟩ : ∃ v, [(1 : Int), 2, 1999, 2000].getD j 0 = v := ⟨_, rfl⟩
    rw [hvv] at hv ⊢
    clear hvv hj
    go_wp2_with fail
    go_ret
    exact ⟨⟨v, rfl, hv⟩, hS2, (O1.alloc _).trans O2⟩
  · go_wp2_with fail
    refine (d_next _ _ _ _ _ _ _ hS1).mono ?_
    rintro e w2 ⟨⟨q, rfl, _, hq⟩, hS2, O2⟩
    obtain ⟨q0, q1⟩ := hq (by omega)
    clear hq
    go_wp2_with fail
    go_ret
    exact ⟨⟨1000 + q, rfl, by omega, by omega⟩, hS2, O1.trans O2⟩
set_option maxRecDepth 100000 in
theorem d_YearSpan (a : Option Addr) (n c : Nat) (xs : List Int) (w : World) (hI : InB w a n xs) (hn : n ≤ 4096) (hx : ∀ i, 0 ≤ xs.getD i 0 ∧ xs.getD i 0 ≤ 255) : Calls Try.prog 29 #[.slice a n c] w fun e w' =>
    (∃ k y, e = .returned (.tuple #[.int .i64 k, .int .i64 y]) ∧ -1 ≤ k ∧ k ≤ 7 ∧ 1 ≤ y ∧ y ≤ 2000) ∧ Below w.heap.size w w' := by
  have con := d_from a n c xs w hI hn hx
  clear hI hn hx
  go_enter Try.func29, Try.ntmps29
  go_wp2_with fail
  refine con.mono ?_
  rintro e w1 ⟨rfl, hS1, L1⟩
  clear con
  go_wp2_with fail
  refine (d_style _ _ _ _ _ _ hS1).mono ?_
  rintro e w2 ⟨⟨k, rfl, k0, k1⟩, hS2, O2⟩
  go_wp2_with fail
  refine (d_year6 _ _ _ _ _ _ hS2).mono ?_
  rintro e w3 ⟨⟨y, rfl, y0, y1⟩, _, O3⟩
  go_wp2_with fail
  refine bodyPost_ret (v := .tuple #[.int .i64 k, .int .i64 y]) (by simp [results, Try.results29, go_sem]) rfl ?_
  exact ⟨⟨k, y, rfl, k0, k1, y0, y1⟩, Off.below L1 (O2.trans O3) L1.size (Nat.le_refl _)⟩
set_option maxRecDepth 100000 in
theorem d_DaysWith (a : Option Addr) (n c : Nat) (xs : List Int) (w : World) (hI : InB w a n xs) (hn : n ≤ 4096) (hx : ∀ i, 0 ≤ xs.getD i 0 ∧ xs.getD i 0 ≤ 255) : Calls Try.prog 26 #[.slice a n c] w fun e w' =>
    (∃ k y m d, e = .returned (.tuple #[.int .i64 k, .int .i64 y, .int .i64 m, .int .i64 d]) ∧ -1 ≤ k ∧ k ≤ 7 ∧ 1 ≤ y ∧ y ≤ 2000 ∧ 1 ≤ m ∧ m ≤ 12 ∧ 1 ≤ d ∧ d ≤ 31) ∧ Below w.heap.size w w' := by
  have con := d_from a n c xs w hI hn hx
  clear hI hn hx
  go_enter Try.func26, Try.ntmps26
  go_wp2_with fail
  refine con.mono ?_
  rintro e w1 ⟨rfl, hS1, L1⟩
  clear con
  go_wp2_with fail
  refine (d_next _ _ _ _ _ _ _ hS1).mono ?_
  rintro e w2 ⟨⟨r, rfl, _, hr⟩, hS2, O2⟩
  obtain ⟨r0, r1⟩ := hr (by omega)
  clear hr
  by_cases h0 : r = 0
  · subst h0
    go_wp2_with fail
    refine (d_year6 _ _ _ _ _ _ hS2).mono ?_
    rintro e w3 ⟨⟨y, rfl, y0, y1⟩, hS3, O3⟩
    go_wp2_with fail
    refine (d_next _ _ _ _ _ _ _ hS3).mono ?_
    rintro e w4 ⟨⟨m, rfl, _, hm⟩, hS4, O4⟩
    obtain ⟨m0, m1⟩ := hm (by omega)
    clear hm
    go_wp2_with fail
    refine (d_next _ _ _ _ _ _ _ hS4).mono ?_
    rintro e w5 ⟨⟨d, rfl, _, hd⟩, hS5, O5⟩
    obtain ⟨d0, d1⟩ := hd (by omega)
    clear hd
    go_wp2_with fail
    refine bodyPost_ret (v := .tuple #[.int .i64 4, .int .i64 y, .int .i64 (3 + m), .int .i64 (1 + d)]) (by simp [results, Try.results26, go_sem]) rfl ?_
    exact ⟨⟨4, y, 3 + m, 1 + d, rfl, by omega, by omega, y0, y1, by omega, by omega, by omega, by omega⟩, Off.below L1 (((O2.trans O3).trans O4).trans O5) L1.size (Nat.le_refl _)⟩
  · go_wp2_with fail
    refine (d_style _ _ _ _ _ _ hS2).mono ?_
    rintro e w6 ⟨⟨k, rfl, k0, k1⟩, hS6, O6⟩
    go_wp2_with fail
    refine (d_year6 _ _ _ _ _ _ hS6).mono ?_
    rintro e w3 ⟨⟨y, rfl, y0, y1⟩, hS3, O3⟩
    go_wp2_with fail
    refine (d_next _ _ _ _ _ _ _ hS3).mono ?_
    rintro e w4 ⟨⟨m, rfl, _, hm⟩, hS4, O4⟩
    obtain ⟨m0, m1⟩ := hm (by omega)
    clear hm
    go_wp2_with fail
    refine (d_next _ _ _ _ _ _ _ hS4).mono ?_
    rintro e w5 ⟨⟨d, rfl, _, hd⟩, hS5, O5⟩
    obtain ⟨d0, d1⟩ := hd (by omega)
    clear hd
    go_wp2_with fail
    refine bodyPost_ret (v := .tuple #[.int .i64 k, .int .i64 y, .int .i64 (1 + m), .int .i64 (1 + d)]) (by simp [results, Try.results26, go_sem]) rfl ?_
    exact ⟨⟨k, y, 1 + m, 1 + d, rfl, k0, k1, y0, y1, by omega, by omega, by omega, by omega⟩, Off.below L1 ((((O2.trans O6).trans O3).trans O4).trans O5) L1.size (Nat.le_refl _)⟩
end Go.Proofs.Ytffpaedhdjnbjaa
