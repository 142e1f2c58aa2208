/- Draws of a reign with a day, and of a reign with a year. Conditions: how the code lies; at most 4096 bytes. -/
import Derived.Test.YtffpaedhdjnbjaaDoorDrawR
import Derived.Deep.RegionHeld3
import Derived.IntWalk
namespace Go.Proofs.YtffpaedhdjnbjaaDoor
open Go.RowKit
theorem Src.undrew {w : World} {g n c : Nat} {a : Option Addr} {xs : List Int} (h : Src w g a n c xs) : Src w.drew g a n c xs := h
theorem Off.undrew {g : Nat} {a w : World} (h : Off g a.drew w) : Off g a w := ⟨h.os, h.tape, h.output, h.size, h.block⟩
theorem draw_bd {m r : Int} (h0 : m ≤ 1 → r = 0) (h1 : 1 < m → 0 ≤ r ∧ r < m) : 0 ≤ r ∧ r < max m 1 := by
  by_cases h : 1 < m
  · have := h1 h
    omega
  · have := h0 (by omega)
    omega
theorem keep3 {W : World} {b x : Nat} (h : x ≠ b) (v0 v1 v2 : Value) (o : Nat) (v : Value) (hc : W.cell? ⟨x, o, none⟩ = some v) : (((W.setCell ⟨b, 0, none⟩ v0).setCell ⟨b, 1, none⟩ v1).setCell ⟨b, 2, none⟩ v2).cell? ⟨x, o, none⟩ = some v := by
  rw [World.cell?_setCell_other _ _ _ _ (fun e => by injection e with e1; exact h e1.symm), World.cell?_setCell_other _ _ _ _ (fun e => by injection e with e1; exact h e1.symm), World.cell?_setCell_other _ _ _ _ (fun e => by injection e with e1; exact h e1.symm)]
  exact hc
theorem five {P : Int → Prop} {a b c d e : Int} (ha : P a) (hb : P b) (hc : P c) (hd : P d) (he : P e) (j : Nat) (hj : j < 5) : P ([a, b, c, d, e].getD j 0) := by
  match j, hj with
  | 0, _ => exact ha
  | 1, _ => exact hb
  | 2, _ => exact hc
  | 3, _ => exact hd
  | 4, _ => exact he
theorem five_cells {w : World} {b : Nat} {t : TypeId} {x0 x1 x2 x3 x4 : Int} (h : Blk w b t #[.int .i64 x0, .int .i64 x1, .int .i64 x2, .int .i64 x3, .int .i64 x4]) (j : Nat) (hj : j < 5) : w.cell? ⟨b, j, none⟩ = some (.int .i64 ([x0, x1, x2, x3, x4].getD j 0)) := by
  match j, hj with
  | 0, _ => exact h.cell 0
  | 1, _ => exact h.cell 1
  | 2, _ => exact h.cell 2
  | 3, _ => exact h.cell 3
  | 4, _ => exact h.cell 4
set_option maxRecDepth 100000 in
set_option maxHeartbeats 1000000 in
theorem d_RegnalSpan (a : Option Addr) (n c : Nat) (xs : List Int) (w : World) (hI : InB w a n xs) (hn : n ≤ 4096) (hx : ∀ i, 0 ≤ xs.getD i 0 ∧ xs.getD i 0 ≤ 255) : Calls Tryd.prog 50 #[.slice a n c] w fun e w' =>
    (∃ (s : ByteArray) (f t k : Int), e = .returned (.tuple #[.agg #[.string s, .int .i64 f, .int .i64 t], .int .i64 k]) ∧ s.size ≤ 20 ∧ 0 ≤ k ∧ k ≤ 3000) ∧ Below w.heap.size w w' := by
  have con := fun o => d_from a n c xs (w.alloc o) (hI.below (below_alloc w o)) hn hx
  simp only [World.size_alloc] at con
  have CON := Lib.hid con
  clear con hI hx hn
  go_enter Tryd.func50, Tryd.ntmps50
  go_wp2_with fail
  refine (CON.out _).mono ?_
  rintro e w1 ⟨rfl, hS1, hb1⟩
  clear CON
  have R1 := (Blk.new w _ _).below hb1 (by omega)
  have L1 := (below_alloc w _).trans (hb1.mono (by omega))
  clear hb1
  go_wp2_with fail
  refine (d_reign _ _ _ _ _ _ hS1).mono ?_
  rintro e w2 ⟨⟨s, f, t, rfl, hs, f0, f1, t0, t1⟩, hS2, hO⟩
  have R2 := hO.blk R1 (by omega)
  have O2 := hO
  have hr1 := R1.lt
  clear hO R1 hS1
  go_wp2_with fail
  refine (d_next _ _ _ _ _ _ _ hS2).mono ?_
  rintro e w3 ⟨⟨p, rfl, _, hp⟩, hS3, hO⟩
  obtain ⟨p0, p1⟩ := hp (by omega)
  have R3 := hO.blk R2 (by omega)
  have O3 := O2.trans hO
  clear hO hp R2 O2 hS2
  go_wp2_with fail
  refine (d_next _ _ _ _ _ _ _ hS3).mono ?_
  rintro e w4 ⟨⟨q, rfl, _, hq⟩, hS4, hO⟩
  obtain ⟨q0, q1⟩ := hq (by omega)
  have R4 := hO.blk R3 (by omega)
  have O4 := O3.trans hO
  have hg4 := hS4.lt
  clear hO hq R3 O3 hS3
  go_wp2_with fail
  refine (d_pick _ n c w4.heap.size 5 a xs [1, 1 + p, q, 0, 3000] _ (hS4.below (below_alloc _ _)) (by omega) (by simp) (by omega) (by omega) (five_cells (Blk.new w4 _ _))).mono ?_
  rintro e w5 ⟨⟨j, hj, rfl⟩, hS5, hO⟩
  have R5 := hO.blk (R4.alloc _) (by omega)
  have O5 := (O4.alloc _).trans hO
  have hv := five (P := fun x => 0 ≤ x ∧ x ≤ 3000) (a := 1) (b := 1 + p) (c := q) (d := 0) (e := 3000) (by omega) (by omega) (by omega) (by omega) (by omega) j hj
  obtain ⟨v, hvv⟩ : ∃ v, [1, 1 + p, q, 0, (3000 : Int)].getD j 0 = v := ⟨_, rfl⟩
  rw [hvv] at hv ⊢
  clear hO hS4 hS5 O4 R4 hvv hj
  have x0 := R5.c0
  have x1 := R5.c1
  have x2 := R5.c2
  have y0 := R5.frozen 0
  have y1 := R5.frozen 1
  have y2 := R5.frozen 2
  have hr5 := R5.lt
  go_wp2_with fail
  refine bodyPost_ret (v := .tuple #[.agg #[.string s, .int .i64 f, .int .i64 t], .int .i64 v]) (by simp [results, Tryd.results50, go_sem, x0, x1, x2]) rfl ⟨⟨s, f, t, v, rfl, hs, hv.1, hv.2⟩, ?_⟩
  have L5 := Off.below L1 O5 (by omega) (by omega)
  exact below_set' (below_set' (below_set' L5 (by omega) _ _) (by omega) _ _) (by omega) _ _
set_option maxRecDepth 100000 in
set_option maxHeartbeats 2000000 in
theorem d_RegnalYear (a : Option Addr) (n c : Nat) (xs : List Int) (w : World) (hI : InB w a n xs) (hn : n ≤ 4096) (hx : ∀ i, 0 ≤ xs.getD i 0 ∧ xs.getD i 0 ≤ 255) : Calls Tryd.prog 49 #[.slice a n c] w fun e w' =>
    (∃ (s : ByteArray) (f t k : Int), e = .returned (.tuple #[.agg #[.string s, .int .i64 f, .int .i64 t], .int .i64 k]) ∧ s.size ≤ 20) ∧ Below w.heap.size w w' := by
  have con := fun o => d_from a n c xs (w.alloc o) (hI.below (below_alloc w o)) hn hx
  simp only [World.size_alloc] at con
  have CON := Lib.hid con
  clear con hI hx hn
  go_enter Tryd.func49, Tryd.ntmps49
  go_wp2_with fail
  refine (CON.out _).mono ?_
  rintro e w1 ⟨rfl, hS1, hb1⟩
  clear CON
  have R1 := (Blk.new w _ _).below hb1 (by omega)
  have L1 := (below_alloc w _).trans (hb1.mono (by omega))
  clear hb1
  go_wp2_with fail
  refine (d_reign _ _ _ _ _ _ hS1).mono ?_
  rintro e w2 ⟨⟨s, f, t, rfl, hs, f0, f1, t0, t1⟩, hS2, hO⟩
  have R2 := hO.blk R1 (by omega)
  have O2 := hO
  have hr1 := R1.lt
  have hg2 := hS2.lt
  have hrg : w.heap.size < w2.heap.size := R2.lt
  clear hO R1 hS1
  go_wp2_with fail
  refine (d_next _ _ _ _ _ _ _ (hS2.below (below_alloc w2 _))).mono ?_
  rintro e w3 ⟨⟨p, rfl, _, hp⟩, hS3, hO⟩
  obtain ⟨p0, p1⟩ := hp (by omega)
  have R3 := hO.blk (R2.alloc _) (by omega)
  have X3 := hO.blk (Blk.new w2 54 #[.string s, .int .i64 f, .int .i64 t]) (by omega)
  have O3 := (O2.alloc _).trans hO
  clear hO hp R2 O2 hS2
  have x0 := X3.c0
  have x1 := X3.c1
  have x2 := X3.c2
  have y0 := R3.frozen 0
  have y1 := R3.frozen 1
  have y2 := R3.frozen 2
  have z0 := R3.c0
  have z1 := R3.c1
  have z2 := R3.c2
  have hx3 := X3.lt
  have hr3 := R3.lt
  have hg3 := hS3.lt
  have hne : w2.heap.size ≠ w.heap.size := by omega
  by_cases hp0 : p = 0
  · subst hp0
    have HA := fun o => (hS3.below (below_alloc w3 o)).undrew
    have wr1 : IntKind.i64.wrap (f - 1) = f - 1 := IntWalk.i64_in _ (by omega)
    have wr2 : IntKind.i64.wrap (t + 1) = t + 1 := IntWalk.i64_in _ (by omega)
    go_wp2_with fail
    go_region_held3 (fun W => W.cell? ⟨w2.heap.size, 0, none⟩ = some (.string s) ∧ W.cell? ⟨w2.heap.size, 1, none⟩ = some (.int .i64 f) ∧ W.cell? ⟨w2.heap.size, 2, none⟩ = some (.int .i64 t))
      (first | go_keep | exact ⟨d0, d1, d2⟩ | exact ⟨keep3 hne _ _ _ _ _ d0, keep3 hne _ _ _ _ _ d1, keep3 hne _ _ _ _ _ d2⟩)
      (first | (go_at_call 58; refine (d_pick (w.heap.size + 1) n c w3.heap.size 5 a xs [f - 1, f, t, t + 1, -1] _ (HA _) (by omega) (by simp) (by omega) (by omega) (five_cells (Blk.new w3 _ _).drew)).mono ?_; rintro e w4 ⟨⟨j, hj, rfl⟩, hS4, hO⟩; obtain ⟨v, hvv⟩ : ∃ v, [f - 1, f, t, t + 1, (-1 : Int)].getD j 0 = v := ⟨_, rfl⟩; rw [hvv]; have hO' := (Off.alloc (Off.refl _ _) _).trans hO.undrew; have X4 := hO'.blk X3 (by omega); have d0 := X4.c0; have d1 := X4.c1; have d2 := X4.c2; have R4 := hO'.blk R3 (by omega); have u0 := R4.c0; have u1 := R4.c1; have u2 := R4.c2; have v0 := R4.frozen 0; have v1 := R4.frozen 1; have v2 := R4.frozen 2; have hr4 := R4.lt; have hx4 := X4.lt))
    go_wp2_with fail
    refine bodyPost_ret (v := .tuple #[.agg #[.string s, .int .i64 f, .int .i64 t], .int .i64 v]) (by simp [results, Tryd.results49, go_sem, u0, u1, u2]) rfl ⟨⟨s, f, t, v, rfl, hs⟩, ?_⟩
    have L5 := Off.below L1 (O3.trans hO') (by omega) (by omega)
    exact below_set' (below_set' (below_set' L5 (by omega) _ _) (by omega) _ _) (by omega) _ _
  · have wr1 : IntKind.i64.wrap (t - f) = t - f := IntWalk.i64_in _ (by omega)
    have wr2 : IntKind.i64.wrap (t - f + 1) = t - f + 1 := IntWalk.i64_in _ (by omega)
    have hp0' : decide (p = 0) = false := by simp [hp0]
    by_cases hM : 1 < t - f + 1
    all_goals
      go_wp2_with fail
      go_region_held3 (fun W => W.cell? ⟨w2.heap.size, 0, none⟩ = some (.string s) ∧ W.cell? ⟨w2.heap.size, 1, none⟩ = some (.int .i64 f) ∧ W.cell? ⟨w2.heap.size, 2, none⟩ = some (.int .i64 t))
        (first | go_keep | exact ⟨d0, d1, d2⟩ | exact ⟨keep3 hne _ _ _ _ _ d0, keep3 hne _ _ _ _ _ d1, keep3 hne _ _ _ _ _ d2⟩)
        (first | (go_at_call 57; refine (d_next (w.heap.size + 1) n c a xs _ w3.drew hS3.undrew).mono ?_; rintro e w4 ⟨⟨r, rfl, hr0, hr1⟩, hS4, hO⟩; have hrb := draw_bd hr0 hr1; have wr3 : IntKind.i64.wrap (f + r) = f + r := IntWalk.i64_in _ (by omega); have hO' := hO.undrew; have X4 := hO'.blk X3 (by omega); have d0 := X4.c0; have d1 := X4.c1; have d2 := X4.c2; have R4 := hO'.blk R3 (by omega); have u0 := R4.c0; have u1 := R4.c1; have u2 := R4.c2; have v0 := R4.frozen 0; have v1 := R4.frozen 1; have v2 := R4.frozen 2; have hr4 := R4.lt; have hx4 := X4.lt; clear hr0 hr1 wr1 wr2))
      go_wp2_with fail
      refine bodyPost_ret (v := .tuple #[.agg #[.string s, .int .i64 f, .int .i64 t], .int .i64 (f + r)]) (by simp [results, Tryd.results49, go_sem, u0, u1, u2]) rfl ⟨⟨s, f, t, f + r, rfl, hs⟩, ?_⟩
      have L5 := Off.below L1 (O3.trans hO') (by omega) (by omega)
      exact below_set' (below_set' (below_set' L5 (by omega) _ _) (by omega) _ _) (by omega) _ _
set_option maxRecDepth 100000 in
theorem l_big (a : Option Addr) (n c : Nat) (w : World) : Calls Tryd.prog 11 #[.slice a n c] w fun e w' => e = .returned (.bool (decide ((4096 : Int) < n))) ∧ Below w.heap.size w w' := by
  go_enter Tryd.func11, Tryd.ntmps11
  go_wp2_with fail
  go_ret
  exact ⟨rfl, Below.refl _ _⟩
end Go.Proofs.YtffpaedhdjnbjaaDoor
