/- Texts put together: DrawM DrawT DrawL DrawK DrawReg. No condition beyond those that stand in each. -/
import Derived.Test.YtmpgokijlikddaaGreatDoorRl5
import Derived.Deep.RegionHeld3
import Derived.IntWalk
import Derived.Test.YtmpgokijlikddaaGreatDoorDraw7W
/- Draws of a year, of a mark, and of a mark with two years. Conditions: how the code and the source lie. -/
namespace Go.Proofs.YtmpgokijlikddaaGreatDoor
open Go.RowKit
theorem Src.undrew' {w : World} {g n c : Nat} {a : Option Addr} {xs : List Int} (h : Src w g a n c xs) : Src w.drew g a n c xs := h
theorem Off.undrew' {g : Nat} {a w : World} (h : Off g a.drew w) : Off g a w := ⟨h.os, h.tape, h.output, h.size, h.block⟩
theorem cellsI {w : World} {b : Nat} {t : TypeId} {l : List Int} (h : Blk w b t ⟨l.map (Value.int .i64)⟩) (j : Nat) (hj : j < l.length) : w.cell? ⟨b, j, none⟩ = some (.int .i64 (l.getD j 0)) := by
  rw [h.cell j]
  simp [hj]
end Go.Proofs.YtmpgokijlikddaaGreatDoor
/- Draws of a day, of a kind of indiction and of a number of a style. Conditions: how the code and the source lie. -/
namespace Go.Proofs.YtmpgokijlikddaaGreatDoor
open Go.RowKit
set_option maxRecDepth 100000 in
theorem d_day1 (g n c : Nat) (a : Option Addr) (xs : List Int) (w : World) (hS : Src w g a n c xs) : Calls Tryz.prog 130 #[.pointer (some ⟨g, 0, none⟩)] w fun e w' =>
    (∃ y, e = .returned (.int .i64 y) ∧ -1 ≤ y ∧ y ≤ 730500) ∧ Src w' g a n c xs ∧ Off g w w' := by
  have con := d_next g n c a xs 16 w hS
  clear hS
  go_enter Tryz.func130, Tryz.ntmps130
  go_wp2_with fail
  refine con.mono ?_
  rintro e w1 ⟨⟨r, rfl, _, hr⟩, hS1, O1⟩
  obtain ⟨r0, r1⟩ := hr (by omega)
  have hg := hS1.lt
  clear hr con
  by_cases h0 : r = 0
  · subst h0
    go_wp2_with fail
    refine (d_pick g n c w1.heap.size 7 a xs [-1, 0, 1, 2, 730498, 730499, 730500] _ (hS1.below (below_alloc _ _)) (by omega) (by simp) (by omega) (by omega) (fun j hj => cellsI (l := [-1, 0, 1, 2, 730498, 730499, 730500]) (Blk.new w1 _ _) j hj)).mono ?_
    rintro e w2 ⟨⟨j, hj, rfl⟩, hS2, O2⟩
    have hv : -1 ≤ [(-1 : Int), 0, 1, 2, 730498, 730499, 730500].getD j 0 ∧ [(-1 : Int), 0, 1, 2, 730498, 730499, 730500].getD j 0 ≤ 730500 := by
      match j, hj with
      | 0, _ => decide
      | 1, _ => decide
      | 2, _ => decide
      | 3, _ => decide
      | 4, _ => decide
      | 5, _ => decide
      | 6, _ => decide
    obtain ⟨v, hvv⟩ : ∃ v, [(-1 : Int), 0, 1, 2, 730498, 730499, 730500].getD j 0 = v := ⟨_, rfl⟩
    rw [hvv] at hv ⊢
    clear hvv hj
    go_wp2_with fail
    go_ret
    exact ⟨⟨v, rfl, by omega, by omega⟩, hS2, (O1.alloc _).trans O2⟩
  · go_wp2_with fail
    refine (d_next _ _ _ _ _ _ _ hS1).mono ?_
    rintro e w2 ⟨⟨q, rfl, _, hq⟩, hS2, O2⟩
    obtain ⟨q0, q1⟩ := hq (by omega)
    clear hq
    go_wp2_with fail
    go_ret
    exact ⟨⟨q, rfl, by omega, by omega⟩, hS2, O1.trans O2⟩
set_option maxRecDepth 100000 in
theorem d_day7 (g n c : Nat) (a : Option Addr) (xs : List Int) (w : World) (hS : Src w g a n c xs) : Calls Tryz.prog 63 #[.pointer (some ⟨g, 0, none⟩)] w fun e w' =>
    (∃ y, e = .returned (.int .i64 y) ∧ -1 ≤ y ∧ y ≤ 730500) ∧ Src w' g a n c xs ∧ Off g w w' := by
  have con := d_next g n c a xs 24 w hS
  clear hS
  go_enter Tryz.func63, Tryz.ntmps63
  go_wp2_with fail
  refine con.mono ?_
  rintro e w1 ⟨⟨r, rfl, _, hr⟩, hS1, O1⟩
  obtain ⟨r0, r1⟩ := hr (by omega)
  have hg := hS1.lt
  clear hr con
  by_cases h0 : r = 0
  · subst h0
    go_wp2_with fail
    refine (d_day1 _ _ _ _ _ _ hS1).mono ?_
    rintro e w2 ⟨⟨y, rfl, y0, y1⟩, hS2, O2⟩
    go_wp2_with fail
    go_ret
    exact ⟨⟨y, rfl, y0, y1⟩, hS2, O1.trans O2⟩
  · go_wp2_with fail
    refine (d_next _ _ _ _ _ _ _ hS1).mono ?_
    rintro e w2 ⟨⟨q, rfl, _, hq⟩, hS2, O2⟩
    obtain ⟨q0, q1⟩ := hq (by omega)
    clear hq
    go_wp2_with fail
    go_ret
    exact ⟨⟨420000 + q, rfl, by omega, by omega⟩, hS2, O1.trans O2⟩
end Go.Proofs.YtmpgokijlikddaaGreatDoor
/- The draws of lists of reigns with a day, a span, a king and a year. Condition: how the code lies. -/
namespace Go.Proofs.YtmpgokijlikddaaGreatDoor
open Go.RowKit
set_option maxRecDepth 100000 in
theorem d_ReignsOn (a : Option Addr) (n c : Nat) (xs : List Int) (w : World) (hI : InB w a n xs) (hn : n ≤ 4096) (hx : ∀ i, 0 ≤ xs.getD i 0 ∧ xs.getD i 0 ≤ 255) : Calls Tryz.prog 13 #[.slice a n c] w fun e w' =>
    (∃ v rs r, e = .returned (.tuple #[v, .int .i64 r]) ∧ OwnR w' w.heap.size v rs ∧ rs.length ≤ 31 ∧ (∀ r ∈ rs, rgB r) ∧ v ≠ .slice none 0 0 ∧ -1 ≤ r ∧ r ≤ 730500) ∧ Below w.heap.size w w' := by
  have CON := Lib.hid (d_from a n c xs w hI hn hx)
  clear hI hx hn
  go_enter Tryz.func13, Tryz.ntmps13
  go_wp2_with fail
  refine CON.out.mono ?_
  rintro e w1 ⟨rfl, hS1, hb1⟩
  have hg1 := hS1.lt
  go_wp2_with fail
  refine (d_draw7 _ _ _ _ _ _ hS1).mono ?_
  rintro e w2 ⟨⟨v, rs, rfl, V, hl, hrs, hvn⟩, hS2, O2⟩
  have L2 := Off.below hb1 O2 hb1.size (Nat.le_refl _)
  have hz2 := L2.size
  go_wp2_with fail
  refine (d_day7 _ _ _ _ _ _ hS2).mono ?_
  rintro e w3 ⟨⟨r, rfl, hr0, hr1⟩, hS3, O3⟩
  have V3 := V.off O3 hg1
  have L3 := Off.below L2 O3 hz2 (Nat.le_refl _)
  go_wp2_with fail
  go_ret2
  exact ⟨⟨_, rs, r, rfl, V3.mono hb1.size, hl, hrs, hvn, hr0, hr1⟩, L3⟩
set_option maxRecDepth 100000 in
theorem d_VoidDays (a : Option Addr) (n c : Nat) (xs : List Int) (w : World) (hI : InB w a n xs) (hn : n ≤ 4096) (hx : ∀ i, 0 ≤ xs.getD i 0 ∧ xs.getD i 0 ≤ 255) : Calls Tryz.prog 8 #[.slice a n c] w fun e w' =>
    (∃ v rs f t, e = .returned (.tuple #[v, .int .i64 f, .int .i64 t]) ∧ OwnR w' w.heap.size v rs ∧ rs.length ≤ 31 ∧ (∀ r ∈ rs, rgB r) ∧ v ≠ .slice none 0 0 ∧ -1 ≤ f ∧ f ≤ 730500 ∧ -20000 ≤ t ∧ t ≤ 800000) ∧ Below w.heap.size w w' := by
  have CON := Lib.hid (d_from a n c xs w hI hn hx)
  clear hI hx hn
  go_enter Tryz.func8, Tryz.ntmps8
  go_wp2_with fail
  refine CON.out.mono ?_
  rintro e w1 ⟨rfl, hS1, hb1⟩
  have hg1 := hS1.lt
  go_wp2_with fail
  refine (d_day7 _ _ _ _ _ _ hS1).mono ?_
  rintro e w2 ⟨⟨f, rfl, hf0, hf1⟩, hS2, O2⟩
  have L2 := Off.below hb1 O2 hb1.size (Nat.le_refl _)
  have hz2 := L2.size
  have hg2 := hS2.lt
  go_wp2_with fail
  refine (d_draw7 _ _ _ _ _ _ hS2).mono ?_
  rintro e w3 ⟨⟨v, rs, rfl, V, hl, hrs, hvn⟩, hS3, O3⟩
  have L3 := Off.below L2 O3 hz2 (Nat.le_refl _)
  have hz3 := L3.size
  go_wp2_with fail
  refine (d_next _ _ _ _ _ _ _ hS3).mono ?_
  rintro e w4 ⟨⟨p, rfl, -, hp⟩, hS4, O4⟩
  obtain ⟨p0, p1⟩ := hp (by omega)
  have V4 := V.off O4 hg2
  have L4 := Off.below L3 O4 hz3 (Nat.le_refl _)
  have hz4 := L4.size
  clear hp V
  have hw1 : IntKind.i64.wrap (f + p) = f + p := IntWalk.i64_in _ (by omega)
  go_wp2_with fail
  refine (d_next _ _ _ _ _ _ _ hS4).mono ?_
  rintro e w5 ⟨⟨q, rfl, -, hq⟩, hS5, O5⟩
  obtain ⟨q0, q1⟩ := hq (by omega)
  have V5 := V4.off O5 hg2
  have L5 := Off.below L4 O5 hz4 (Nat.le_refl _)
  clear hq V4
  have hd : q.tdiv 19 = q / 19 := by rw [Int.tdiv_eq_ediv_of_nonneg q0]
  have hw2 : IntKind.i64.wrap (q / 19) = q / 19 := IntWalk.i64_in _ (by omega)
  have hw3 : IntKind.i64.wrap (q / 19 * 9000) = q / 19 * 9000 := IntWalk.i64_in _ (by omega)
  have hw4 : IntKind.i64.wrap (f + p - q / 19 * 9000) = f + p - q / 19 * 9000 := IntWalk.i64_in _ (by omega)
  go_wp2_with fail
  refine bodyPost_ret (v := .tuple #[v, .int .i64 f, .int .i64 (f + p - q / 19 * 9000)]) (by simp [results, Tryz.results8, go_sem]) rfl ⟨⟨_, rs, f, _, rfl, V5.mono hz2, hl, hrs, hvn, hf0, hf1, by omega, by omega⟩, L5⟩
end Go.Proofs.YtmpgokijlikddaaGreatDoor
/- The draw of a list of reigns, a king and a year. Condition: how the code lies. -/
namespace Go.Proofs.YtmpgokijlikddaaGreatDoor
open Go.RowKit
theorem four_cells {w : World} {b : Nat} {t : TypeId} {x0 x1 x2 x3 : Int} (h : Blk w b t #[.int .i64 x0, .int .i64 x1, .int .i64 x2, .int .i64 x3]) (j : Nat) (hj : j < 4) : w.cell? ⟨b, j, none⟩ = some (.int .i64 ([x0, x1, x2, x3].getD j 0)) := by
  match j, hj with
  | 0, _ => exact h.c0
  | 1, _ => exact h.c1
  | 2, _ => exact h.c2
  | 3, _ => exact h.cell 3
set_option maxRecDepth 100000 in
theorem d_KingSet (a : Option Addr) (n c : Nat) (xs : List Int) (w : World) (hI : InB w a n xs) (hn : n ≤ 4096) (hx : ∀ i, 0 ≤ xs.getD i 0 ∧ xs.getD i 0 ≤ 255) : Calls Tryz.prog 18 #[.slice a n c] w fun e w' =>
    (∃ v rs s k, e = .returned (.tuple #[v, .string s, .int .i64 k]) ∧ OwnR w' w.heap.size v rs ∧ rs.length ≤ 31 ∧ (∀ r ∈ rs, rgB r) ∧ v ≠ .slice none 0 0 ∧ s.size ≤ 20 ∧ 0 ≤ k ∧ k ≤ 20) ∧ Below w.heap.size w w' := by
  have CON := Lib.hid (d_from a n c xs w hI hn hx)
  clear hI hx hn
  go_enter Tryz.func18, Tryz.ntmps18
  go_wp2_with fail
  refine CON.out.mono ?_
  rintro e w1 ⟨rfl, hS1, hb1⟩
  have hg1 := hS1.lt
  go_wp2_with fail
  refine (d_draw7 _ _ _ _ _ _ hS1).mono ?_
  rintro e w3 ⟨⟨v, rs, rfl, V, hl, hrs, hvn⟩, hS3, O3⟩
  have L3 := Off.below hb1 O3 hb1.size (Nat.le_refl _)
  have hz3 := L3.size
  go_wp2_with fail
  refine (d_king _ _ _ _ _ _ hS3).mono ?_
  rintro e w4 ⟨⟨s, rfl, hs⟩, hS4, O4⟩
  have V4 := V.off O4 hg1
  have L4 := Off.below L3 O4 hz3 (Nat.le_refl _)
  have hz4 := L4.size
  go_wp2_with fail
  refine (d_next _ _ _ _ _ _ _ hS4).mono ?_
  rintro e w5 ⟨⟨p, rfl, -, hp⟩, hS5, O5⟩
  obtain ⟨p0, p1⟩ := hp (by omega)
  have V5 := V4.off O5 hg1
  have L5 := Off.below L4 O5 hz4 (Nat.le_refl _)
  have hz5 := L5.size
  have hw1 : IntKind.i64.wrap (1 + p) = 1 + p := IntWalk.i64_in _ (by omega)
  clear hp V V4
  go_wp2_with fail
  refine (d_next _ _ _ _ _ _ _ hS5).mono ?_
  rintro e w6 ⟨⟨q, rfl, -, hq⟩, hS6, O6⟩
  obtain ⟨q0, q1⟩ := hq (by omega)
  have V6 := (V5.off O6 hg1).alloc (.cells #[.int .i64 1, .int .i64 2, .int .i64 (1 + p), .int .i64 q] 2)
  have L6 := Off.below L5 O6 hz5 (Nat.le_refl _)
  have hz6 := L6.size
  have L7 := below_more L6 hz6 (.cells #[.int .i64 1, .int .i64 2, .int .i64 (1 + p), .int .i64 q] 2)
  have hg6 := hS6.lt
  have hz7 := L7.size
  clear hq V5
  go_wp2_with fail
  refine (d_pick w.heap.size n c w6.heap.size 4 a xs [1, 2, 1 + p, q] _ (hS6.below (below_alloc w6 _)) (by omega) (by simp) (by omega) (by omega) (four_cells (Blk.new w6 _ _))).mono ?_
  rintro e w8 ⟨⟨j, hj, rfl⟩, hS8, O8⟩
  have hk : 0 ≤ [1, 2, 1 + p, q].getD j 0 ∧ [1, 2, 1 + p, q].getD j 0 ≤ 20 := by
    match j, hj with
    | 0, _ => simp
    | 1, _ => simp
    | 2, _ => simp; omega
    | 3, _ => simp; omega
  have V8 := V6.off O8 hg1
  have L8 := Off.below L7 O8 hz7 (Nat.le_refl _)
  obtain ⟨k, hkk⟩ : ∃ k, [1, 2, 1 + p, q].getD j 0 = k := ⟨_, rfl⟩
  rw [hkk] at hk ⊢
  clear hkk
  go_wp2_with fail
  refine bodyPost_ret (v := .tuple #[v, .string s, .int .i64 k]) (by simp [results, Tryz.results18, go_sem]) rfl ⟨⟨_, rs, s, k, rfl, V8.mono hb1.size, hl, hrs, hvn, hs, hk.1, hk.2⟩, L8⟩
end Go.Proofs.YtmpgokijlikddaaGreatDoor
/- Draws of a reign with a day, and of a reign with a year. Conditions: how the code lies; at most 4096 bytes. -/
namespace Go.Proofs.YtmpgokijlikddaaGreatDoor
open Go.RowKit
theorem Src.undrew {w : World} {g n c : Nat} {a : Option Addr} {xs : List Int} (h : Src w g a n c xs) : Src w.drew g a n c xs := h
theorem Off.undrew {g : Nat} {a w : World} (h : Off g a.drew w) : Off g a w := ⟨h.os, h.tape, h.output, h.size, h.block⟩
theorem draw_bd {m r : Int} (h0 : m ≤ 1 → r = 0) (h1 : 1 < m → 0 ≤ r ∧ r < m) : 0 ≤ r ∧ r < max m 1 := by
  by_cases h : 1 < m
  · have := h1 h
    omega
  · have := h0 (by omega)
    omega
theorem keep3 {W : World} {b x : Nat} (h : x ≠ b) (v0 v1 v2 : Value) (o : Nat) (v : Value) (hc : W.cell? ⟨x, o, none⟩ = some v) : (((W.setCell ⟨b, 0, none⟩ v0).setCell ⟨b, 1, none⟩ v1).setCell ⟨b, 2, none⟩ v2).cell? ⟨x, o, none⟩ = some v := by
  rw [World.cell?_setCell_other _ _ _ _ (fun e => by injection e with e1; exact h e1.symm), World.cell?_setCell_other _ _ _ _ (fun e => by injection e with e1; exact h e1.symm), World.cell?_setCell_other _ _ _ _ (fun e => by injection e with e1; exact h e1.symm)]
  exact hc
theorem five {P : Int → Prop} {a b c d e : Int} (ha : P a) (hb : P b) (hc : P c) (hd : P d) (he : P e) (j : Nat) (hj : j < 5) : P ([a, b, c, d, e].getD j 0) := by
  match j, hj with
  | 0, _ => exact ha
  | 1, _ => exact hb
  | 2, _ => exact hc
  | 3, _ => exact hd
  | 4, _ => exact he
theorem five_cells {w : World} {b : Nat} {t : TypeId} {x0 x1 x2 x3 x4 : Int} (h : Blk w b t #[.int .i64 x0, .int .i64 x1, .int .i64 x2, .int .i64 x3, .int .i64 x4]) (j : Nat) (hj : j < 5) : w.cell? ⟨b, j, none⟩ = some (.int .i64 ([x0, x1, x2, x3, x4].getD j 0)) := by
  match j, hj with
  | 0, _ => exact h.cell 0
  | 1, _ => exact h.cell 1
  | 2, _ => exact h.cell 2
  | 3, _ => exact h.cell 3
  | 4, _ => exact h.cell 4
set_option maxRecDepth 100000 in
theorem l_big (a : Option Addr) (n c : Nat) (w : World) : Calls Tryz.prog 7 #[.slice a n c] w fun e w' => e = .returned (.bool (decide ((4096 : Int) < n))) ∧ Below w.heap.size w w' := by
  go_enter Tryz.func7, Tryz.ntmps7
  go_wp2_with fail
  go_ret
  exact ⟨rfl, Below.refl _ _⟩
end Go.Proofs.YtmpgokijlikddaaGreatDoor
