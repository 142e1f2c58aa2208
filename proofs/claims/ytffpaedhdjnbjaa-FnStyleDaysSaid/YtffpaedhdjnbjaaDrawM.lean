/- Draws of a year, of a mark, and of a mark with two years. Conditions: how the code and the source lie. -/
import Derived.Test.YtffpaedhdjnbjaaDrawR
import Derived.Test.YtffpaedhdjnbjaaMarks
import Derived.Deep.RegionHeld3
import Derived.IntWalk
namespace Go.Proofs.Ytffpaedhdjnbjaa
open Go.RowKit
theorem Src.undrew' {w : World} {g n c : Nat} {a : Option Addr} {xs : List Int} (h : Src w g a n c xs) : Src w.drew g a n c xs := h
theorem Off.undrew' {g : Nat} {a w : World} (h : Off g a.drew w) : Off g a w := ⟨h.os, h.tape, h.output, h.size, h.block⟩
theorem cellsI {w : World} {b : Nat} {t : TypeId} {l : List Int} (h : Blk w b t ⟨l.map (Value.int .i64)⟩) (j : Nat) (hj : j < l.length) : w.cell? ⟨b, j, none⟩ = some (.int .i64 (l.getD j 0)) := by
  rw [h.cell j]
  simp [hj]
set_option maxRecDepth 100000 in
theorem d_year4 (g n c : Nat) (a : Option Addr) (xs : List Int) (w : World) (hS : Src w g a n c xs) : Calls Try.prog 59 #[.pointer (some ⟨g, 0, none⟩)] w fun e w' =>
    (∃ y, e = .returned (.int .i64 y) ∧ 0 ≤ y ∧ y ≤ 2001) ∧ Src w' g a n c xs ∧ Off g w w' := by
  have con := d_next g n c a xs 20 w hS
  clear hS
  go_enter Try.func59, Try.ntmps59
  go_wp2_with fail
  refine con.mono ?_
  rintro e w1 ⟨⟨r, rfl, _, hr⟩, hS1, O1⟩
  obtain ⟨r0, r1⟩ := hr (by omega)
  have hg := hS1.lt
  clear hr con
  by_cases h0 : r = 0
  · subst h0
    go_wp2_with fail
    refine (d_pick g n c w1.heap.size 6 a xs [0, 1, 1582, 1583, 2000, 2001] _ (hS1.below (below_alloc _ _)) (by omega) (by simp) (by omega) (by omega) (fun j hj => cellsI (l := [0, 1, 1582, 1583, 2000, 2001]) (Blk.new w1 _ _) j hj)).mono ?_
    rintro e w2 ⟨⟨j, hj, rfl⟩, hS2, O2⟩
    have hv : 0 ≤ [(0 : Int), 1, 1582, 1583, 2000, 2001].getD j 0 ∧ [(0 : Int), 1, 1582, 1583, 2000, 2001].getD j 0 ≤ 2001 := by
      match j, hj with
      | 0, _ => decide
      | 1, _ => decide
      | 2, _ => decide
      | 3, _ => decide
      | 4, _ => decide
      | 5, _ => decide
    obtain ⟨v, hvv⟩ : ∃ v, [(0 : Int), 1, 1582, 1583, 2000, 2001].getD j 0 = v := ⟨_, rfl⟩
    rw [hvv] at hv ⊢
    clear hvv hj
    go_wp2_with fail
    go_ret
    exact ⟨⟨v, rfl, hv⟩, hS2, (O1.alloc _).trans O2⟩
  · go_wp2_with fail
    refine (d_next _ _ _ _ _ _ _ hS1).mono ?_
    rintro e w2 ⟨⟨q, rfl, _, hq⟩, hS2, O2⟩
    obtain ⟨q0, q1⟩ := hq (by omega)
    clear hq
    go_wp2_with fail
    go_ret
    exact ⟨⟨1 + q, rfl, by omega, by omega⟩, hS2, O1.trans O2⟩
set_option maxRecDepth 100000 in
theorem d_MarkOf (a : Option Addr) (n c : Nat) (xs : List Int) (w : World) (hI : InB w a n xs) (hn : n ≤ 4096) (hx : ∀ i, 0 ≤ xs.getD i 0 ∧ xs.getD i 0 ≤ 255) : Calls Try.prog 13 #[.slice a n c] w fun e w' =>
    (∃ y, e = .returned (.int .i64 y) ∧ 0 ≤ y ∧ y ≤ 2001) ∧ Below w.heap.size w w' := by
  have con := d_from a n c xs w hI hn hx
  clear hI hn hx
  go_enter Try.func13, Try.ntmps13
  go_wp2_with fail
  refine con.mono ?_
  rintro e w1 ⟨rfl, hS1, L1⟩
  clear con
  go_wp2_with fail
  refine (d_year4 _ _ _ _ _ _ hS1).mono ?_
  rintro e w2 ⟨⟨y, rfl, y0, y1⟩, _, O⟩
  go_wp2_with fail
  go_ret
  exact ⟨⟨y, rfl, y0, y1⟩, Off.below L1 O L1.size (Nat.le_refl _)⟩
set_option maxRecDepth 100000 in
set_option maxHeartbeats 2000000 in
theorem d_mark8 (g n c : Nat) (a : Option Addr) (xs : List Int) (w : World) (hS : Src w g a n c xs) : Calls Try.prog 67 #[.pointer (some ⟨g, 0, none⟩)] w fun e w' =>
    (∃ i e' c', e = .returned (.agg #[.int .i64 i, .int .i64 e', .int .i64 c'])) ∧ Src w' g a n c xs ∧ Off g w w' := by
  have hSA := fun (o : Obj) => hS.below (below_alloc w o)
  have hg := hS.lt
  have HSA := Lib.hid hSA
  have H0 := Lib.hid hS
  clear hSA hS
  go_enter Try.func67, Try.ntmps67
  go_wp2_with fail
  refine (d_next _ _ _ _ _ _ _ (HSA.out _)).mono ?_
  rintro e w1 ⟨⟨r, rfl, _, hr⟩, hS1, hO⟩
  obtain ⟨r0, r1⟩ := hr (by omega)
  have O1 := (Off.of (g := g) (below_alloc w _)).trans hO
  have R1 := hO.blk (Blk.new w _ _) (by omega)
  clear hr hO HSA
  go_wp2_with fail
  refine (s_MarkOf _ _).mono ?_
  rintro e w2 ⟨rfl, hb⟩
  have S2 := hS1.below hb
  have O2 := O1.trans (Off.of hb)
  have R2 := R1.below hb R1.lt
  clear hb R1 O1 hS1
  generalize (markF (1 + r)).1.1 = I
  generalize (markF (1 + r)).1.2.1 = E
  generalize (markF (1 + r)).1.2.2 = C
  generalize (markF (1 + r)).2 = Z
  have hr2 := R2.lt
  have hg2 := S2.lt
  go_wp2_with fail
  refine (d_next _ _ _ _ _ _ _ (S2.below (below_alloc w2 _))).mono ?_
  rintro e w3 ⟨⟨q, rfl, _, hq⟩, S3, hO⟩
  obtain ⟨q0, q1⟩ := hq (by omega)
  have O3 := (O2.alloc _).trans hO
  have R3 := hO.blk (R2.alloc _) (by omega)
  have X3 := hO.blk (Blk.new w2 32 #[.int .i64 I, .int .i64 E, .int .i64 C]) (by omega)
  clear hq hO S2 O2 R2
  have hx := X3.lt
  have k0 := X3.c0
  have k1 := X3.c1
  have k2 := X3.c2
  have m0 := X3.frozen 0
  by_cases hq : q = 0
  focus
    subst hq
    go_wp2_with fail
    have S4 := S3.set2 H0.out (b := w2.heap.size) (by omega) 0 (.int .i64 (0))
    have O4 := O3.set2 (b := w2.heap.size) (by omega) 0 (.int .i64 (0))
    have R4 := R3.far (p := ⟨w2.heap.size, 0, none⟩) (by show w.heap.size ≠ w2.heap.size; omega) (.int .i64 (0))
    have X4 : ∃ I E C, Blk _ w2.heap.size 32 #[.int .i64 I, .int .i64 E, .int .i64 C] := ⟨_, _, _, X3.s0 (.int .i64 (0))⟩
  rotate_left
  focus
    go_wp2_with fail
    have S4 := S3
    have O4 := O3
    have R4 := R3
    have X4 : ∃ I E C, Blk _ w2.heap.size 32 #[.int .i64 I, .int .i64 E, .int .i64 C] := ⟨_, _, _, X3⟩
  all_goals
    obtain ⟨I4, E4, C4, X4⟩ := X4
    clear S3 O3 R3 X3 k0 k1 k2
    refine (d_next _ _ _ _ _ _ _ S4).mono ?_
    rintro e w5 ⟨⟨q, rfl, _, hq⟩, S5, hO⟩
    obtain ⟨q0, q1⟩ := hq (by omega)
    have O5 := O4.trans hO
    have R5 := hO.blk R4 (by omega)
    have X5 := hO.blk X4 (by omega)
    clear hq hO S4 O4 R4 X4
    have k0 := X5.c0
    have k1 := X5.c1
    have k2 := X5.c2
    have m0 := X5.frozen 0
    have m1 := X5.frozen 1
    have m2 := X5.frozen 2
    have hx := X5.lt
    by_cases hq : q = 0
    focus
      subst hq
      go_wp2_with fail
      have S6 := S5.set2 H0.out (b := w2.heap.size) (by omega) 1 (.int .i64 (-1))
      have O6 := O5.set2 (b := w2.heap.size) (by omega) 1 (.int .i64 (-1))
      have R6 := R5.far (p := ⟨w2.heap.size, 1, none⟩) (by show w.heap.size ≠ w2.heap.size; omega) (.int .i64 (-1))
      have X6 : ∃ I E C, Blk _ w2.heap.size 32 #[.int .i64 I, .int .i64 E, .int .i64 C] := ⟨_, _, _, X5.s1 (.int .i64 (-1))⟩
    rotate_left
    focus
      go_wp2_with fail
      have S6 := S5
      have O6 := O5
      have R6 := R5
      have X6 : ∃ I E C, Blk _ w2.heap.size 32 #[.int .i64 I, .int .i64 E, .int .i64 C] := ⟨_, _, _, X5⟩
    all_goals
      obtain ⟨I6, E6, C6, X6⟩ := X6
      clear S5 O5 R5 X5 k0 k1 k2
      refine (d_next _ _ _ _ _ _ _ S6).mono ?_
      rintro e w7 ⟨⟨q, rfl, _, hq⟩, S7, hO⟩
      obtain ⟨q0, q1⟩ := hq (by omega)
      have O7 := O6.trans hO
      have R7 := hO.blk R6 (by omega)
      have X7 := hO.blk X6 (by omega)
      clear hq hO S6 O6 R6 X6
      have k0 := X7.c0
      have k1 := X7.c1
      have k2 := X7.c2
      have m0 := X7.frozen 0
      have m1 := X7.frozen 1
      have m2 := X7.frozen 2
      have hx := X7.lt
      by_cases hq : q = 0
      focus
        subst hq
        go_wp2_with fail
        refine (d_next _ _ _ _ _ _ _ S7).mono ?_
        rintro e w8 ⟨⟨u, rfl, _, hu⟩, S8, hO⟩
        have O8 := O7.trans hO
        have R8 := hO.blk R7 (by omega)
        have X8 := hO.blk X7 (by omega)
        clear hu hO S7 O7 R7 X7 k0 k1 k2 m0 m1 m2
        have k0 := X8.c0
        have k1 := X8.c1
        have k2 := X8.c2
        have m2 := X8.frozen 2
        have hx := X8.lt
        go_wp2_with fail
        have S9 := S8.set2 H0.out (b := w2.heap.size) (by omega) 2 (.int .i64 u)
        have O9 := O8.set2 (b := w2.heap.size) (by omega) 2 (.int .i64 u)
        have R9 := R8.far (p := ⟨w2.heap.size, 2, none⟩) (by show w.heap.size ≠ w2.heap.size; omega) (.int .i64 u)
        have X9 : ∃ I E C, Blk _ w2.heap.size 32 #[.int .i64 I, .int .i64 E, .int .i64 C] := ⟨_, _, _, X8.s2 (.int .i64 u)⟩
        clear S8 O8 R8 X8
      rotate_left
      focus
        go_wp2_with fail
        have S9 := S7
        have O9 := O7
        have R9 := R7
        have X9 : ∃ I E C, Blk _ w2.heap.size 32 #[.int .i64 I, .int .i64 E, .int .i64 C] := ⟨_, _, _, X7⟩
        clear S7 O7 R7 X7
      all_goals
        obtain ⟨I9, E9, C9, X9⟩ := X9
        clear k0 k1 k2 m2
        refine (d_next _ _ _ _ _ _ _ S9).mono ?_
        rintro e w10 ⟨⟨q, rfl, _, hq⟩, S10, hO⟩
        obtain ⟨q0, q1⟩ := hq (by omega)
        have O10 := O9.trans hO
        have R10 := hO.blk R9 (by omega)
        have X10 := hO.blk X9 (by omega)
        clear hq hO S9 O9 R9 X9
        have hx := X10.lt
        have hr := R10.lt
        have hgg := S10.lt
        by_cases hq : q = 0
        · subst hq
          go_wp2_with fail
          refine (d_pick g n c w10.heap.size 3 a xs [-1, 16, 5] _ (S10.below (below_alloc _ _)) (by omega) (by simp) (by omega) (by omega) (fun j hj => cellsI (l := [-1, 16, 5]) (Blk.new w10 _ _) j hj)).mono ?_
          rintro e w11 ⟨⟨j, hj, rfl⟩, S11, hO⟩
          obtain ⟨V1, hv⟩ : ∃ v, [(-1 : Int), 16, 5].getD j 0 = v := ⟨_, rfl⟩
          rw [hv]
          have O11 := (O10.alloc _).trans hO
          have R11 := hO.blk (R10.alloc _) (by omega)
          have hgg := S11.lt
          have hr := R11.lt
          clear hv hj hO S10 O10 R10
          go_wp2_with fail
          refine (d_pick g n c w11.heap.size 3 a xs [-2, 30, 5] _ (S11.below (below_alloc _ _)) (by omega) (by simp) (by omega) (by omega) (fun j hj => cellsI (l := [-2, 30, 5]) (Blk.new w11 _ _) j hj)).mono ?_
          rintro e w12 ⟨⟨j, hj, rfl⟩, S12, hO⟩
          obtain ⟨V2, hv⟩ : ∃ v, [(-2 : Int), 30, 5].getD j 0 = v := ⟨_, rfl⟩
          rw [hv]
          have O12 := (O11.alloc _).trans hO
          have R12 := hO.blk (R11.alloc _) (by omega)
          have hgg := S12.lt
          have hr := R12.lt
          clear hv hj hO S11 O11 R11
          go_wp2_with fail
          refine (d_pick g n c w12.heap.size 2 a xs [-1, 8] _ (S12.below (below_alloc _ _)) (by omega) (by simp) (by omega) (by omega) (fun j hj => cellsI (l := [-1, 8]) (Blk.new w12 _ _) j hj)).mono ?_
          rintro e w13 ⟨⟨j, hj, rfl⟩, S13, hO⟩
          obtain ⟨V3, hv⟩ : ∃ v, [(-1 : Int), 8].getD j 0 = v := ⟨_, rfl⟩
          rw [hv]
          have O13 := (O12.alloc _).trans hO
          have R13 := hO.blk (R12.alloc _) (by omega)
          have hgg := S13.lt
          have hr := R13.lt
          clear hv hj hO S12 O12 R12
          have z0 := R13.c0
          have y0 := R13.frozen 0
          have z1 := R13.c1
          have y1 := R13.frozen 1
          have z2 := R13.c2
          have y2 := R13.frozen 2
          go_wp2_with fail
          refine bodyPost_ret (v := .agg #[.int .i64 V1, .int .i64 V2, .int .i64 V3]) (by simp [results, Try.results67, go_sem, z0, z1, z2]) rfl ⟨⟨_, _, _, rfl⟩, ?_, ?_⟩
          · exact (((S13.set2 H0.out (by omega) _ _).set2 H0.out (by omega) _ _).set2 H0.out (by omega) _ _)
          · exact (((O13.set2 (by omega) _ _).set2 (by omega) _ _).set2 (by omega) _ _)
        · have k0 := X10.c0
          have k1 := X10.c1
          have k2 := X10.c2
          have z0 := R10.c0
          have y0 := R10.frozen 0
          have z1 := R10.c1
          have y1 := R10.frozen 1
          have z2 := R10.c2
          have y2 := R10.frozen 2
          go_wp2_with fail
          refine bodyPost_ret (v := .agg #[.int .i64 I9, .int .i64 E9, .int .i64 C9]) (by simp [results, Try.results67, go_sem, z0, z1, z2]) rfl ⟨⟨_, _, _, rfl⟩, ?_, ?_⟩
          · exact (((S10.set2 H0.out (by omega) _ _).set2 H0.out (by omega) _ _).set2 H0.out (by omega) _ _)
          · exact (((O10.set2 (by omega) _ _).set2 (by omega) _ _).set2 (by omega) _ _)
end Go.Proofs.Ytffpaedhdjnbjaa
