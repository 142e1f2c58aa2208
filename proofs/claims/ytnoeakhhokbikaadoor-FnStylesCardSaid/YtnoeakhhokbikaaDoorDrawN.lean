/- Draws of a style with a day, of a day with a year, of two styles, and of a style's name. Conditions: how the code and the source lie. -/
import Derived.Test.YtnoeakhhokbikaaDoorDrawT
import Derived.Test.YtnoeakhhokbikaaDoorDrawS
import Derived.Test.YtnoeakhhokbikaaDoorOld
import Derived.Test.YtnoeakhhokbikaaDoorNames
namespace Go.Proofs.YtnoeakhhokbikaaDoor
open Go.RowKit
set_option maxRecDepth 100000 in
set_option maxHeartbeats 1000000 in
theorem d_YearOn (a : Option Addr) (n c : Nat) (xs : List Int) (w : World) (hI : InB w a n xs) (hn : n ≤ 4096) (hx : ∀ i, 0 ≤ xs.getD i 0 ∧ xs.getD i 0 ≤ 255) : Calls Tryd.prog 11 #[.slice a n c] w fun e w' =>
    (∃ k y, e = .returned (.tuple #[.int .i64 k, .int .i64 y])) ∧ Below w.heap.size w w' := by
  have con := d_from a n c xs w hI hn hx
  clear hI hn hx
  go_enter Tryd.func11, Tryd.ntmps11
  go_wp2_with fail
  refine con.mono ?_
  rintro e w1 ⟨rfl, hS1, L1⟩
  clear con
  go_wp2_with fail
  refine (d_style _ _ _ _ _ _ hS1).mono ?_
  rintro e w2 ⟨⟨k, rfl, k0, k1⟩, hS2, O2⟩
  go_wp2_with fail
  refine (d_next _ _ _ _ _ _ _ hS2).mono ?_
  rintro e w3 ⟨⟨r, rfl, _, hr⟩, hS3, hO⟩
  obtain ⟨r0, r1⟩ := hr (by omega)
  have O3 := O2.trans hO
  clear hr hO O2
  by_cases h0 : r = 0
  · subst h0
    go_wp2_with fail
    refine (d_next _ _ _ _ _ _ _ hS3).mono ?_
    rintro e w4 ⟨⟨p, rfl, _, hp⟩, hS4, hO⟩
    obtain ⟨p0, p1⟩ := hp (by omega)
    have O4 := O3.trans hO
    clear hp hO O3 hS3
    go_wp2_with fail
    refine (d_next _ _ _ _ _ _ _ hS4).mono ?_
    rintro e w5 ⟨⟨q, rfl, _, hq⟩, hS5, hO⟩
    obtain ⟨q0, q1⟩ := hq (by omega)
    have O5 := O4.trans hO
    clear hq hO O4 hS4
    go_wp2_with fail
    refine (d_day1 _ _ _ _ _ _ hS5).mono ?_
    rintro e w6 ⟨⟨u, rfl, u0, u1⟩, hS6, hO⟩
    have O6 := O5.trans hO
    have hg := hS6.lt
    clear hO O5 hS5
    go_wp2_with fail
    refine (d_pick w.heap.size n c w6.heap.size 3 a xs [p, 730499 - q, u] _ (hS6.below (below_alloc _ _)) (by omega) (by simp) (by omega) (by omega) (fun j hj => cellsI (l := [p, 730499 - q, u]) (Blk.new w6 _ _) j hj)).mono ?_
    rintro e w7 ⟨⟨j, hj, rfl⟩, _, hO⟩
    obtain ⟨v, hvv⟩ : ∃ v, [p, 730499 - q, u].getD j 0 = v := ⟨_, rfl⟩
    rw [hvv]
    have O7 := (O6.alloc _).trans hO
    clear hvv hj hO O6 hS6
    go_wp2_with fail
    refine bodyPost_ret (v := .tuple #[.int .i64 k, .int .i64 v]) (by simp [results, Tryd.results11, go_sem]) rfl ⟨⟨k, v, rfl⟩, ?_⟩
    exact Off.below L1 O7 L1.size (Nat.le_refl _)
  · go_wp2_with fail
    refine (d_next _ _ _ _ _ _ _ hS3).mono ?_
    rintro e w4 ⟨⟨q, rfl, _, hq⟩, _, hO⟩
    obtain ⟨q0, q1⟩ := hq (by omega)
    go_wp2_with fail
    refine bodyPost_ret (v := .tuple #[.int .i64 k, .int .i64 (365000 + q)]) (by simp [results, Tryd.results11, go_sem]) rfl ⟨⟨k, 365000 + q, rfl⟩, ?_⟩
    exact Off.below L1 (O3.trans hO) L1.size (Nat.le_refl _)
set_option maxRecDepth 100000 in
set_option maxHeartbeats 1000000 in
theorem d_StylesFor (a : Option Addr) (n c : Nat) (xs : List Int) (w : World) (hI : InB w a n xs) (hn : n ≤ 4096) (hx : ∀ i, 0 ≤ xs.getD i 0 ∧ xs.getD i 0 ≤ 255) : Calls Tryd.prog 14 #[.slice a n c] w fun e w' =>
    (∃ k y, e = .returned (.tuple #[.int .i64 k, .int .i64 y])) ∧ Below w.heap.size w w' := by
  have con := d_from a n c xs w hI hn hx
  clear hI hn hx
  go_enter Tryd.func14, Tryd.ntmps14
  go_wp2_with fail
  refine con.mono ?_
  rintro e w1 ⟨rfl, hS1, L1⟩
  clear con
  go_wp2_with fail
  refine (d_day1 _ _ _ _ _ _ hS1).mono ?_
  rintro e w2 ⟨⟨d, rfl, d0, d1⟩, hS2, O2⟩
  by_cases hd : inB d 0 730499 = true
  · obtain ⟨e0, e1⟩ := inB_iff.1 hd
    have con := fun W => s_l01Old d W e0 e1
    obtain ⟨ya, yb⟩ := yr_bd d e0 e1
    obtain ⟨Y, hY⟩ : ∃ Y, yr d = Y := ⟨_, rfl⟩
    rw [hY] at con ya yb
    clear hY
    go_wp2_with (go_at_call 56; refine (toB (s_day _ _) (by assumption)).mono ?_; rintro e w' ⟨rfl, rfl⟩)
    refine (con _).mono ?_
    rintro e w3 ⟨rfl, hb⟩
    have hS3 := hS2.below hb
    have O3 := O2.trans (Off.of hb)
    clear con
    have fd := fieldD0
    go_wp2_with fail
    refine (d_next _ _ _ _ _ _ _ hS3).mono ?_
    rintro e w4 ⟨⟨q, rfl, _, hq⟩, _, hO⟩
    obtain ⟨q0, q1⟩ := hq (by omega)
    go_wp2_with fail
    refine bodyPost_ret (v := .tuple #[.int .i64 d, .int .i64 (Y + q - 1)]) (by simp [results, Tryd.results14, go_sem]) rfl ⟨⟨d, Y + q - 1, rfl⟩, ?_⟩
    exact Off.below L1 (O3.trans hO) L1.size (Nat.le_refl _)
  · replace hd : inB d 0 730499 = false := by simpa using hd
    go_wp2_with (go_at_call 56; refine (toB (s_day _ _) (by assumption)).mono ?_; rintro e w' ⟨rfl, rfl⟩)
    refine (d_year6 _ _ _ _ _ _ hS2).mono ?_
    rintro e w3 ⟨⟨y, rfl, y0, y1⟩, _, hO⟩
    go_wp2_with fail
    refine bodyPost_ret (v := .tuple #[.int .i64 d, .int .i64 y]) (by simp [results, Tryd.results14, go_sem]) rfl ⟨⟨d, y, rfl⟩, ?_⟩
    exact Off.below L1 (O2.trans hO) L1.size (Nat.le_refl _)
set_option maxRecDepth 100000 in
set_option maxHeartbeats 1000000 in
theorem d_YearDifference (a : Option Addr) (n c : Nat) (xs : List Int) (w : World) (hI : InB w a n xs) (hn : n ≤ 4096) (hx : ∀ i, 0 ≤ xs.getD i 0 ∧ xs.getD i 0 ≤ 255) : Calls Tryd.prog 17 #[.slice a n c] w fun e w' =>
    (∃ k m y, e = .returned (.tuple #[.int .i64 k, .int .i64 m, .int .i64 y])) ∧ Below w.heap.size w w' := by
  have con := d_from a n c xs w hI hn hx
  have CON := Lib.hid (fun W hW => d_YearOn a n c xs W (hI.below hW) hn hx)
  clear hI hn hx
  go_enter Tryd.func17, Tryd.ntmps17
  go_wp2_with fail
  refine con.mono ?_
  rintro e w1 ⟨rfl, hS1, L1⟩
  clear con
  go_wp2_with fail
  refine (CON.out _ L1).mono ?_
  rintro e w2 ⟨⟨k0, y, rfl⟩, hb⟩
  have hS2 := hS1.below hb
  have L2 := below_step L1 hb
  clear hb L1 hS1 CON
  go_wp2_with fail
  refine (d_style _ _ _ _ _ _ hS2).mono ?_
  rintro e w3 ⟨⟨k, rfl, _, _⟩, hS3, O3⟩
  go_wp2_with fail
  refine (d_style _ _ _ _ _ _ hS3).mono ?_
  rintro e w4 ⟨⟨m, rfl, _, _⟩, _, O4⟩
  go_wp2_with fail
  refine bodyPost_ret (v := .tuple #[.int .i64 k, .int .i64 m, .int .i64 y]) (by simp [results, Tryd.results17, go_sem]) rfl ⟨⟨k, m, y, rfl⟩, ?_⟩
  exact Off.below L2 (O3.trans O4) L2.size (Nat.le_refl _)
set_option maxRecDepth 100000 in
set_option maxHeartbeats 1000000 in
theorem d_StyleNamed (a : Option Addr) (n c : Nat) (xs : List Int) (w : World) (hI : InB w a n xs) (hn : n ≤ 4096) (hx : ∀ i, 0 ≤ xs.getD i 0 ∧ xs.getD i 0 ≤ 255) : Calls Tryd.prog 23 #[.slice a n c] w fun e w' =>
    (∃ x : List UInt8, e = .returned (.string ⟨x.toArray⟩)) ∧ Below w.heap.size w w' := by
  have con := d_from a n c xs w hI hn hx
  clear hI hn hx
  go_enter Tryd.func23, Tryd.ntmps23
  go_wp2_with fail
  refine con.mono ?_
  rintro e w1 ⟨rfl, hS1, L1⟩
  clear con
  go_wp2_with fail
  refine (d_next _ _ _ _ _ _ _ hS1).mono ?_
  rintro e w2 ⟨⟨r, rfl, _, hr⟩, hS2, O2⟩
  obtain ⟨r0, r1⟩ := hr (by omega)
  have hg := hS2.lt
  clear hr
  by_cases h0 : r = 0
  · subst h0
    go_wp2_with fail
    refine (d_next _ _ _ _ _ _ _ (hS2.below (below_alloc w2 _))).mono ?_
    rintro e w3 ⟨⟨q, rfl, _, hq⟩, _, hO⟩
    have hq := hq (by omega)
    have hB1 := hO.blk (Blk.new w2 _ _) (by omega)
    have O3 := (O2.alloc _).trans hO
    have hz := hB1.lt
    have k0 := hB1.cell 0
    have k1 := hB1.cell 1
    have k2 := hB1.cell 2
    have k3 := hB1.cell 3
    have hq4 : q = 0 ∨ q = 1 ∨ q = 2 ∨ q = 3 := by omega
    clear hO
    rcases hq4 with rfl | rfl | rfl | rfl
    all_goals
      go_wp2_with fail
      go_ret
      exact ⟨⟨_, rfl⟩, Off.below L1 O3 L1.size (Nat.le_refl _)⟩
  · go_wp2_with fail
    refine (s_styles _).mono ?_
    rintro e w3 ⟨v, rfl, ho, hb⟩
    have hS3 := hS2.below hb
    have O3 := O2.trans (Off.of hb)
    clear hb
    go_wp2_with fail
    refine (d_next _ _ _ _ _ _ _ hS3).mono ?_
    rintro e w4 ⟨⟨q, rfl, _, hq⟩, _, hO⟩
    obtain ⟨q0, q1⟩ := hq (by omega)
    obtain ⟨gv, cv, rfl, hb0, hb1, _, _, hc, _⟩ := ho.openedC (by decide)
    have hl : stylesL.length = 7 := rfl
    obtain ⟨j, rfl⟩ : ∃ j : Nat, q = j := ⟨q.toNat, by omega⟩
    have hcell := (hO.cell hb1 (by omega) j).trans (hc j (by rw [hl]; omega))
    have hgw := Nat.lt_of_lt_of_le hb1 hO.size
    rw [hl]
    obtain ⟨x, hx⟩ : ∃ x, stylesL.getD j [] = x := ⟨_, rfl⟩
    rw [hx] at hcell
    have O4 := O3.trans hO
    clear hc hl ho hx hO
    go_wp2_with fail
    go_ret
    exact ⟨⟨x, rfl⟩, Off.below L1 O4 L1.size (Nat.le_refl _)⟩
end Go.Proofs.YtnoeakhhokbikaaDoor
