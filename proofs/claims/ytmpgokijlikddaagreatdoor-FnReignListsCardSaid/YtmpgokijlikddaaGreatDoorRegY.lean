/- The years of a reign: the program's and the reference's functions return what the plain functions say. Conditions: the bounds that stand in the theorems. -/
import Derived.Test.YtmpgokijlikddaaGreatDoorBeg
import Derived.Deep.RegionHeld3
namespace Go.Proofs.YtmpgokijlikddaaGreatDoor
open Go.RowKit
theorem below_undrew {B : Nat} {a w : World} (h : Below B a.drew w) : Below B a w := ⟨h.os, h.tape, h.output, h.size, h.block⟩
theorem below_cells {W w1 : World} {B g : Nat} {t : TypeId} {cs : Array Value} (hb : Below B W w1) (h : Blk W g t cs) (hg : g < B) : Blk w1 g t cs := h.below hb hg
set_option maxRecDepth 100000 in
theorem s_year7 (s : ByteArray) (f t n : Int) (w : World) (h0 : 0 ≤ f) (h1 : f ≤ n) (h2 : n ≤ 730499) : Calls Tryz.prog 82 #[.agg #[.string s, .int .i64 f, .int .i64 t], .int .i64 n] w fun e w' => e = .returned (.int .i64 (ky f n)) ∧ Below w.heap.size w w' := by
  obtain ⟨y0, y1⟩ := yr_bd f h0 (by omega)
  obtain ⟨y2, y3⟩ := yr_bd n (by omega) h2
  obtain ⟨q0, q1, q2, q3⟩ := ky_bd f n h0 h1 h2
  have hwr : IntKind.i64.wrap (yr n - yr f) = yr n - yr f := IntWalk.i64_in _ (by omega)
  have fd := fieldD0
  go_enter Tryz.func82, Tryz.ntmps82
  go_wp2_with fail
  go_region_held3 (fun W => W.cell? ⟨w.heap.size, 0, none⟩ = some (.string s) ∧ W.cell? ⟨w.heap.size, 1, none⟩ = some (.int .i64 f) ∧ W.cell? ⟨w.heap.size, 2, none⟩ = some (.int .i64 t))
    (first | go_keep)
    (first | (go_at_call 146; refine (s_l01Old _ _ (by omega) (by omega)).mono ?_; rintro e w3 ⟨rfl, hb3⟩; obtain ⟨hc3, hf3⟩ := bcell hb3; have hz3 : w.heap.size < w3.heap.size := (by have := hb3.size; (try simp at this); omega); (first | (have hB := hB.below hb3 hB.lt; have hL := hL.trans (hb3.mono (by omega))) | (have hB := (Blk.new w 90 #[.string s, .int .i64 f, .int .i64 t]).below (below_undrew hb3) (by simp); have hL := below_step (below_alloc _ _) (below_undrew hb3)))))
  rename_i hHeld
  obtain ⟨c0, c1, c2⟩ := hHeld
  clear hc3 hf3 hb3
  go_wp2_with fail
  go_loopw [5] (fun v wr => ∃ k : Int, 1 ≤ k ∧ k ≤ ky f n ∧ v = .int .i64 k ∧ Blk wr w.heap.size 90 #[.string s, .int .i64 f, .int .i64 t] ∧ Below w.heap.size w wr) (fun v _ => (ky f n - intOf v).toNat)
  case atStart => exact ⟨max 1 (yr n - yr f), by omega, by omega, rfl, hB, hL⟩
  case round =>
    clear hL hB c0 c1 c2 hz3
    obtain ⟨k, k0, k1, rfl, B, L⟩ := hrel
    have c0 := B.c0
    have c1 := B.c1
    have c2 := B.c2
    have hlt := B.lt
    have hiff := ky_iff f n (k + 1)
    by_cases hk : k + 1 ≤ ky f n
    · have hle : bg f (k + 1) ≤ n := hiff.2 hk
      clear hiff
      go_wp2_with fail
      refine (s_begin _ _ _ _ _ h0 (by omega) (by omega) (by omega)).mono ?_
      rintro e w2 ⟨rfl, hb⟩
      go_wp2_with fail
      go_roundw
      case rel => exact ⟨k + 1, by omega, by omega, rfl, B.below hb hlt, L.trans (hb.mono (Nat.le_of_lt hlt))⟩
      case measure => simp [intOf]; omega
    · have hle : n < bg f (k + 1) := by
        by_cases h : bg f (k + 1) ≤ n
        · exact absurd (hiff.1 h) hk
        · omega
      have he := Lib.hid (show k = ky f n by omega)
      clear hiff hk
      go_wp2_with fail
      refine (s_begin _ _ _ _ _ h0 (by omega) (by omega) (by omega)).mono ?_
      rintro e w2 ⟨rfl, hb⟩
      go_wp2_with fail
      go_ret
      exact ⟨ret_int he.out, L.trans (hb.mono (Nat.le_of_lt hlt))⟩
set_option maxRecDepth 100000 in
theorem i_year7 (s : ByteArray) (f t n : Int) (w : World) (h0 : 0 ≤ f) (h1 : f ≤ n) (h2 : n ≤ 730499) : Calls Tryz.prog 79 #[.agg #[.string s, .int .i64 f, .int .i64 t], .int .i64 n] w fun e w' => e = .returned (.int .i64 (ky f n)) ∧ Below w.heap.size w w' := by
  obtain ⟨y0, y1⟩ := yr_bd f h0 (by omega)
  obtain ⟨q0, q1, q2, q3⟩ := ky_bd f n h0 h1 h2
  go_enter Tryz.func79, Tryz.ntmps79
  go_wp2_with fail
  go_loopw [5] (fun v wr => ∃ k : Int, 1 ≤ k ∧ k ≤ ky f n ∧ v = .int .i64 k ∧ Blk wr w.heap.size 90 #[.string s, .int .i64 f, .int .i64 t] ∧ Below w.heap.size w wr) (fun v _ => (ky f n - intOf v).toNat)
  case atStart => exact ⟨1, by omega, q0, rfl, Blk.new _ _ _, below_alloc _ _⟩
  case round =>
    obtain ⟨k, k0, k1, rfl, B, L⟩ := hrel
    have c0 := B.c0
    have c1 := B.c1
    have c2 := B.c2
    have hlt := B.lt
    have hiff := bgI_iff f n (k + 1) h2 h0 h1
    have hd : decide (bgI f (k + 1) ≤ n) = decide (k + 1 ≤ ky f n) := decide_eq_decide.2 hiff
    by_cases hk : k + 1 ≤ ky f n
    · have hle : bgI f (k + 1) ≤ n := hiff.2 hk
      clear hd hiff
      go_wp2_with fail
      refine (i_begin _ _ _ _ _ h0 (by omega) (by omega) (by omega)).mono ?_
      rintro e w2 ⟨rfl, hb⟩
      go_wp2_with fail
      go_roundw
      case rel => exact ⟨k + 1, by omega, by omega, rfl, B.below hb hlt, L.trans (hb.mono (Nat.le_of_lt hlt))⟩
      case measure => simp [intOf]; omega
    · have hle : n < bgI f (k + 1) := by
        by_cases h : bgI f (k + 1) ≤ n
        · exact absurd (hiff.1 h) hk
        · omega
      have he := Lib.hid (show k = ky f n by omega)
      clear hd hiff hk
      go_wp2_with fail
      refine (i_begin _ _ _ _ _ h0 (by omega) (by omega) (by omega)).mono ?_
      rintro e w2 ⟨rfl, hb⟩
      go_wp2_with fail
      go_ret
      exact ⟨ret_int he.out, L.trans (hb.mono (Nat.le_of_lt hlt))⟩
set_option maxRecDepth 100000 in
theorem s_span7 (s : ByteArray) (f t k : Int) (w : World) (h0 : 0 ≤ f) (h1 : f ≤ t) (h2 : t ≤ 730499) (k0 : 1 ≤ k) : Calls Tryz.prog 148 #[.agg #[.string s, .int .i64 f, .int .i64 t], .int .i64 k] w fun e w' => e = .returned (.tuple #[.agg #[.int .i64 (rsp f t k).1.1, .int .i64 (rsp f t k).1.2], .bool (rsp f t k).2]) ∧ Below w.heap.size w w' := by
  obtain ⟨y0, y1⟩ := yr_bd f h0 (by omega)
  by_cases hk : 2000 < k
  · have hF := rsp_none (f := f) (t := t) (k := k) (by omega)
    rw [hF]
    have B0 := Blk.new w 90 #[.string s, .int .i64 f, .int .i64 t]
    go_enter Tryz.func148, Tryz.ntmps148
    go_wp2_with fail
    have hd : decide (2000 < k) = true := by simp [hk]
    go_quiet (fail)
    go_wp2_with fail
    refine bodyPost_ret (v := .tuple #[.agg #[.int .i64 0, .int .i64 0], .bool false]) (by simp [results, Tryz.results148, go_sem]) rfl ⟨rfl, ?_⟩
    exact below_set' (below_set' (below_drewN (below_more (below_alloc _ _) (by simp) _) _) (by omega) _ _) (by omega) _ _
  · have hk' : k ≤ 2000 := by omega
    have hd0 : decide (2000 < k) = false := by simp; omega
    clear hk
    by_cases hlt : t < bg f k
    · rw [rsp_none (by omega)]
      go_enter Tryz.func148, Tryz.ntmps148
      go_wp2_with fail
      go_region_held3 (fun W => W.cell? ⟨w.heap.size, 0, none⟩ = some (.string s) ∧ W.cell? ⟨w.heap.size, 1, none⟩ = some (.int .i64 f) ∧ W.cell? ⟨w.heap.size, 2, none⟩ = some (.int .i64 t))
        (first | go_keep | exact ⟨d0, d1, d2⟩)
        (first | (go_at_call 147; refine (s_begin _ _ _ _ _ h0 (by omega) k0 (by omega)).mono ?_; rintro e w3 ⟨rfl, hb3⟩; have hL := (below_more (below_alloc w (.cells #[.string s, .int .i64 f, .int .i64 t] 90)) (by simp) (.cells #[.int .i64 0, .int .i64 0] 47)).trans ((below_undrew hb3).mono (by simp; omega)); have hB := ((Blk.new w 90 #[.string s, .int .i64 f, .int .i64 t]).alloc (.cells #[.int .i64 0, .int .i64 0] 47)).below (below_undrew hb3) (by simp; omega); have hB2 := (Blk.new' (w.alloc (.cells #[.string s, .int .i64 f, .int .i64 t] 90)) 47 #[.int .i64 0, .int .i64 0] (w.heap.size + 1) (by simp)).below (below_undrew hb3) (by simp); have d0 := hB.c0; have d1 := hB.c1; have d2 := hB.c2))
      clear hb3
      have hz1 : w.heap.size < w3.heap.size := hB.lt
      have hz2 : w.heap.size + 1 < w3.heap.size := hB2.lt
      have g20 := hB2.c0
      have g21 := hB2.c1
      have f20 := hB2.frozen 0
      have f21 := hB2.frozen 1
      go_wp2_with fail
      refine bodyPost_ret (v := .tuple #[.agg #[.int .i64 0, .int .i64 0], .bool false]) (by simp [results, Tryz.results148, go_sem, g20, g21]) rfl ⟨rfl, ?_⟩
      exact below_set' (below_set' hL (by omega) _ _) (by omega) _ _
    · rw [rsp_some hk' (by omega)]
      have hlt' : bg f k ≤ t := by omega
      have hbd := bg_range f (k + 1)
      have hnb := nyear_bd (yr f + (k + 1) - 1) (by omega) (by omega)
      have hnb2 := nyear_bd (yr f + (k + 1)) (by omega) (by omega)
      have hw1 : IntKind.i64.wrap (k + 1) = k + 1 := IntWalk.i64_in _ (by omega)
      have hw2 : IntKind.i64.wrap (bg f (k + 1) - 1) = bg f (k + 1) - 1 := IntWalk.i64_in _ (by omega)
      clear hlt hbd hnb hnb2
      go_enter Tryz.func148, Tryz.ntmps148
      go_wp2_with fail
      go_region_held3 (fun W => W.cell? ⟨w.heap.size, 0, none⟩ = some (.string s) ∧ W.cell? ⟨w.heap.size, 1, none⟩ = some (.int .i64 f) ∧ W.cell? ⟨w.heap.size, 2, none⟩ = some (.int .i64 t))
        (first | go_keep | exact ⟨d0, d1, d2⟩)
        (first | (go_at_call 147; refine (s_begin _ _ _ _ _ h0 (by omega) k0 (by omega)).mono ?_; rintro e w3 ⟨rfl, hb3⟩; have hL := (below_more (below_alloc w (.cells #[.string s, .int .i64 f, .int .i64 t] 90)) (by simp) (.cells #[.int .i64 0, .int .i64 0] 47)).trans ((below_undrew hb3).mono (by simp; omega)); have hB := ((Blk.new w 90 #[.string s, .int .i64 f, .int .i64 t]).alloc (.cells #[.int .i64 0, .int .i64 0] 47)).below (below_undrew hb3) (by simp; omega); have hB2 := (Blk.new' (w.alloc (.cells #[.string s, .int .i64 f, .int .i64 t] 90)) 47 #[.int .i64 0, .int .i64 0] (w.heap.size + 1) (by simp)).below (below_undrew hb3) (by simp); have d0 := hB.c0; have d1 := hB.c1; have d2 := hB.c2))
      clear hb3
      have hz1 : w.heap.size < w3.heap.size := hB.lt
      have hz2 : w.heap.size + 1 < w3.heap.size := hB2.lt
      have g20 := hB2.c0
      have g21 := hB2.c1
      have f20 := hB2.frozen 0
      have f21 := hB2.frozen 1
      go_wp2_with fail
      go_region_held3 (fun W => W.cell? ⟨w.heap.size, 0, none⟩ = some (.string s) ∧ W.cell? ⟨w.heap.size, 1, none⟩ = some (.int .i64 f) ∧ W.cell? ⟨w.heap.size, 2, none⟩ = some (.int .i64 t))
        (first | go_keep | exact ⟨d0, d1, d2⟩)
        (first | (go_at_call 147; refine (s_begin _ _ _ _ _ h0 (by omega) (by omega) (by omega)).mono ?_; rintro e w4 ⟨rfl, hb4⟩; (first | replace hb4 := below_undrew hb4 | skip); have hz4 := hb4.size; (try simp only [World.size_drew] at hb4 hz4); replace hL := hL.trans (hb4.mono (by omega)); replace hB2 := hB2.below hb4 hB2.lt; replace hB := hB.below hb4 hB.lt; replace d0 := hB.c0; replace d1 := hB.c1; replace d2 := hB.c2; replace g20 := hB2.c0; replace g21 := hB2.c1; replace f20 := hB2.frozen 0; replace f21 := hB2.frozen 1; replace hz1 := hB.lt; replace hz2 := hB2.lt))
      go_wp2_with fail
      refine bodyPost_ret (v := .tuple #[.agg #[.int .i64 (bg f k), .int .i64 (min t (bg f (k + 1) - 1))], .bool true]) (by simp [results, Tryz.results148, go_sem, g20, g21]) rfl ⟨rfl, ?_⟩
      exact below_set' (below_set' hL (by omega) _ _) (by omega) _ _
set_option maxRecDepth 100000 in
theorem i_span7 (s : ByteArray) (f t k : Int) (w : World) (h0 : 0 ≤ f) (h1 : f ≤ t) (h2 : t ≤ 730499) (k0 : 1 ≤ k) (k1 : k ≤ 9223372036854775807) : Calls Tryz.prog 86 #[.agg #[.string s, .int .i64 f, .int .i64 t], .int .i64 k] w fun e w' => e = .returned (.tuple #[.agg #[.int .i64 (rsp f t k).1.1, .int .i64 (rsp f t k).1.2], .bool (rsp f t k).2]) ∧ Below w.heap.size w w' := by
  obtain ⟨y0, y1⟩ := yr_bd f h0 (by omega)
  obtain ⟨v0, v1⟩ := bgI_bd f k k0 y0
  have hN := rspI_none (f := f) (t := t) (k := k) k0 h2
  have hS := fun h => rspI_some (f := f) (t := t) (k := k) k0 h2 h y0
  have HN := Lib.hid hN
  have HS := Lib.hid hS
  clear hN hS
  by_cases hlt : t < bgI f k
  · rw [HN.out hlt]
    go_enter Tryz.func86, Tryz.ntmps86
    go_wp2_with fail
    refine (i_begin _ _ _ _ _ h0 (by omega) k0 k1).mono ?_
    rintro e w1 ⟨rfl, hb⟩
    have B1 := ((Blk.new w 90 #[.string s, .int .i64 f, .int .i64 t]).alloc (.cells #[.int .i64 0, .int .i64 0] 47)).below hb (by simp; omega)
    have B2 := (Blk.new' (w.alloc (.cells #[.string s, .int .i64 f, .int .i64 t] 90)) 47 #[.int .i64 0, .int .i64 0] (w.heap.size + 1) (by simp)).below hb (by simp)
    have L1 := (below_more (below_alloc w (.cells #[.string s, .int .i64 f, .int .i64 t] 90)) (by simp) _).trans (hb.mono (by simp; omega))
    have c10 := B1.c0
    have c11 := B1.c1
    have c12 := B1.c2
    have c20 := B2.c0
    have c21 := B2.c1
    have hz1 : w.heap.size < w1.heap.size := B1.lt
    have hz2 : w.heap.size + 1 < w1.heap.size := B2.lt
    have f20 := B2.frozen 0
    have f21 := B2.frozen 1
    go_wp2_with fail
    refine bodyPost_ret (v := .tuple #[.agg #[.int .i64 0, .int .i64 0], .bool false]) (by simp [results, Tryz.results86, go_sem, c20, c21, hz2]) rfl ⟨rfl, ?_⟩
    exact below_more (below_set' (below_set' L1 (by omega) _ _) (by omega) _ _) (by simp; omega) _
  · have hlt' : bgI f k ≤ t := by omega
    have hk2 : k ≤ 2000 := by
      by_cases h : 2000 < k
      · rw [bgI_late f k (.inl h)] at hlt'; omega
      · omega
    clear hlt
    rw [HS.out hlt']
    go_enter Tryz.func86, Tryz.ntmps86
    go_wp2_with fail
    refine (i_begin _ _ _ _ _ h0 (by omega) k0 k1).mono ?_
    rintro e w1 ⟨rfl, hb⟩
    have B1 := ((Blk.new w 90 #[.string s, .int .i64 f, .int .i64 t]).alloc (.cells #[.int .i64 0, .int .i64 0] 47)).below hb (by simp; omega)
    have B2 := (Blk.new' (w.alloc (.cells #[.string s, .int .i64 f, .int .i64 t] 90)) 47 #[.int .i64 0, .int .i64 0] (w.heap.size + 1) (by simp)).below hb (by simp)
    have L1 := (below_more (below_alloc w (.cells #[.string s, .int .i64 f, .int .i64 t] 90)) (by simp) _).trans (hb.mono (by simp; omega))
    have c10 := B1.c0
    have c11 := B1.c1
    have c12 := B1.c2
    have c20 := B2.c0
    have c21 := B2.c1
    have hz1 : w.heap.size < w1.heap.size := B1.lt
    have hz2 : w.heap.size + 1 < w1.heap.size := B2.lt
    have f20 := B2.frozen 0
    have f21 := B2.frozen 1
    go_wp2_with fail
    have hv2 := bgI_bd f (k + 1) (by omega) y0
    have hw1 : IntKind.i64.wrap (k + 1) = k + 1 := IntWalk.i64_in _ (by omega)
    have hw2 : IntKind.i64.wrap (bgI f (k + 1) - 1) = bgI f (k + 1) - 1 := IntWalk.i64_in _ (by omega)
    have hB5 := Blk.new w1 47 #[.int .i64 (bgI f k), .int .i64 0]
    have hB1 := B1.alloc (.cells #[.int .i64 (bgI f k), .int .i64 0] 47)
    have hB2 := B2.alloc (.cells #[.int .i64 (bgI f k), .int .i64 0] 47)
    have hL := below_more L1 (by omega) (.cells #[.int .i64 (bgI f k), .int .i64 0] 47)
    go_region_held3 (fun W => W.cell? ⟨w.heap.size, 0, none⟩ = some (.string s) ∧ W.cell? ⟨w.heap.size, 1, none⟩ = some (.int .i64 f) ∧ W.cell? ⟨w.heap.size, 2, none⟩ = some (.int .i64 t))
      (first | go_keep | exact ⟨d0, d1, d2⟩ | exact ⟨(hB1.far (p := ⟨w1.heap.size, 1, none⟩) (by show w.heap.size ≠ w1.heap.size; omega) _).c0, (hB1.far (p := ⟨w1.heap.size, 1, none⟩) (by show w.heap.size ≠ w1.heap.size; omega) _).c1, (hB1.far (p := ⟨w1.heap.size, 1, none⟩) (by show w.heap.size ≠ w1.heap.size; omega) _).c2⟩)
      (first | (go_at_call 142; refine (i_begin _ _ _ _ _ h0 (by omega) (by omega) (by omega)).mono ?_; rintro e w4 ⟨rfl, hb4⟩; (first | replace hb4 := below_undrew hb4 | skip); have hz4 := hb4.size; (try simp at hz4); replace hL := hL.trans (hb4.mono (by simp; omega)); replace hB5 := hB5.below hb4 (by simp); have g50 := hB5.c0; have g51 := hB5.c1; have f51 := hB5.frozen 1; have hz5 := hB5.lt; replace hB1 := hB1.below hb4 (by simp; omega); replace hB2 := hB2.below hb4 (by simp; omega); have d0 := hB1.c0; have d1 := hB1.c1; have d2 := hB1.c2; have e20 := hB2.c0; have e21 := hB2.c1; have fe0 := hB2.frozen 0; have fe1 := hB2.frozen 1; have hz6 := hB2.lt))
    go_wp2_with fail
    refine bodyPost_ret (v := .tuple #[.agg #[.int .i64 (bgI f k), .int .i64 (min t (bgI f (k + 1) - 1))], .bool true]) (by simp [results, Tryz.results86, go_sem, e20, e21]) rfl ⟨rfl, ?_⟩
    exact below_set' (below_set' (below_set' hL (by omega) _ _) (by omega) _ _) (by omega) _ _
end Go.Proofs.YtmpgokijlikddaaGreatDoor
