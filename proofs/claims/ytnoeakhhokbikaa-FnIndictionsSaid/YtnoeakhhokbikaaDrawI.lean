/- Draws of a kind of indiction with a day, and of days with an indiction. Conditions: how the code and the source lie. -/
import Derived.Test.YtnoeakhhokbikaaDrawT
import Derived.Test.YtnoeakhhokbikaaIndOn
namespace Go.Proofs.Ytnoeakhhokbikaa
open Go.RowKit
set_option maxRecDepth 100000 in
set_option maxHeartbeats 1000000 in
theorem d_IndictionOn (a : Option Addr) (n c : Nat) (xs : List Int) (w : World) (hI : InB w a n xs) (hn : n ≤ 4096) (hx : ∀ i, 0 ≤ xs.getD i 0 ∧ xs.getD i 0 ≤ 255) : Calls Try.prog 11 #[.slice a n c] w fun e w' =>
    (∃ k y, e = .returned (.tuple #[.int .i64 k, .int .i64 y])) ∧ Below w.heap.size w w' := by
  have con := d_from a n c xs w hI hn hx
  clear hI hn hx
  go_enter Try.func11, Try.ntmps11
  go_wp2_with fail
  refine con.mono ?_
  rintro e w1 ⟨rfl, hS1, L1⟩
  clear con
  go_wp2_with fail
  refine (d_kind8 _ _ _ _ _ _ hS1).mono ?_
  rintro e w2 ⟨⟨k, rfl, k0, k1⟩, hS2, O2⟩
  go_wp2_with fail
  refine (d_next _ _ _ _ _ _ _ hS2).mono ?_
  rintro e w3 ⟨⟨r, rfl, _, hr⟩, hS3, hO⟩
  obtain ⟨r0, r1⟩ := hr (by omega)
  have O3 := O2.trans hO
  clear hr hO O2
  by_cases h0 : r = 0
  · subst h0
    go_wp2_with fail
    refine (d_next _ _ _ _ _ _ _ hS3).mono ?_
    rintro e w4 ⟨⟨q, rfl, _, hq⟩, hS4, hO⟩
    obtain ⟨q0, q1⟩ := hq (by omega)
    have O4 := O3.trans hO
    have hg := hS4.lt
    clear hq hO O3 hS3
    go_wp2_with fail
    refine (d_pick w.heap.size n c w4.heap.size 2 a xs [1, 24] _ (hS4.below (below_alloc _ _)) (by omega) (by simp) (by omega) (by omega) (fun j hj => cellsI (l := [1, 24]) (Blk.new w4 _ _) j hj)).mono ?_
    rintro e w5 ⟨⟨j, hj, rfl⟩, hS5, hO⟩
    have hv : (1 : Int) ≤ [(1 : Int), 24].getD j 0 ∧ [(1 : Int), 24].getD j 0 ≤ 24 := by
      match j, hj with
      | 0, _ => decide
      | 1, _ => decide
    obtain ⟨v, hvv⟩ : ∃ v, [(1 : Int), 24].getD j 0 = v := ⟨_, rfl⟩
    rw [hvv] at hv ⊢
    have O5 := (O4.alloc _).trans hO
    clear hvv hj hO O4 hS4
    obtain ⟨v0, v1⟩ := hv
    have hnb := num9_bd (1 + q) v (by omega) (by omega) (by omega) (by omega)
    go_wp2_with fail
    refine (s_num (1 + q) 9 v _ (by omega) (by omega) (by omega) (by omega) (by omega) (by omega)).mono ?_
    rintro e w6 ⟨rfl, hb⟩
    have hS6 := hS5.below hb
    have O6 := O5.trans (Off.of hb)
    clear hb O5 hS5
    obtain ⟨N, hN⟩ : ∃ N, num (1 + q) 9 v = N := ⟨_, rfl⟩
    rw [hN] at hnb ⊢
    clear hN
    go_wp2_with fail
    refine (d_next _ _ _ _ _ _ _ hS6).mono ?_
    rintro e w7 ⟨⟨u, rfl, _, hu⟩, _, hO⟩
    obtain ⟨u0, u1⟩ := hu (by omega)
    have O7 := O6.trans hO
    clear hu hO O6
    go_wp2_with fail
    refine bodyPost_ret (v := .tuple #[.int .i64 k, .int .i64 (N - u)]) (by simp [results, Try.results11, go_sem]) rfl ⟨⟨k, N - u, rfl⟩, ?_⟩
    exact Off.below L1 O7 L1.size (Nat.le_refl _)
  · go_wp2_with fail
    refine (d_day1 _ _ _ _ _ _ hS3).mono ?_
    rintro e w4 ⟨⟨y, rfl, y0, y1⟩, _, hO⟩
    go_wp2_with fail
    refine bodyPost_ret (v := .tuple #[.int .i64 k, .int .i64 y]) (by simp [results, Try.results11, go_sem]) rfl ⟨⟨k, y, rfl⟩, ?_⟩
    exact Off.below L1 (O3.trans hO) L1.size (Nat.le_refl _)
set_option maxRecDepth 100000 in
set_option maxHeartbeats 1000000 in
theorem d_IndictionDays (a : Option Addr) (n c : Nat) (xs : List Int) (w : World) (hI : InB w a n xs) (hn : n ≤ 4096) (hx : ∀ i, 0 ≤ xs.getD i 0 ∧ xs.getD i 0 ≤ 255) : Calls Try.prog 14 #[.slice a n c] w fun e w' =>
    (∃ k i f t, e = .returned (.tuple #[.int .i64 k, .int .i64 i, .int .i64 f, .int .i64 t])) ∧ Below w.heap.size w w' := by
  have con := d_from a n c xs w hI hn hx
  clear hI hn hx
  go_enter Try.func14, Try.ntmps14
  go_wp2_with fail
  refine con.mono ?_
  rintro e w1 ⟨rfl, hS1, L1⟩
  clear con
  go_wp2_with fail
  refine (d_day7 _ _ _ _ _ _ hS1).mono ?_
  rintro e w2 ⟨⟨f, rfl, f0, f1⟩, hS2, O2⟩
  go_wp2_with fail
  refine (d_next _ _ _ _ _ _ _ hS2).mono ?_
  rintro e w3 ⟨⟨r, rfl, _, hr⟩, hS3, hO⟩
  obtain ⟨r0, r1⟩ := hr (by omega)
  have O3 := O2.trans hO
  clear hr hO O2
  by_cases h0 : r = 0
  · subst h0
    go_wp2_with fail
    refine (d_kind8 _ _ _ _ _ _ hS3).mono ?_
    rintro e w4 ⟨⟨k, rfl, k0, k1⟩, hS4, hO⟩
    have O4 := O3.trans hO
    have hg := hS4.lt
    clear hO O3 hS3
    go_wp2_with fail
    refine (d_pick w.heap.size n c w4.heap.size 4 a xs [0, 1, 15, 16] _ (hS4.below (below_alloc _ _)) (by omega) (by simp) (by omega) (by omega) (fun j hj => cellsI (l := [0, 1, 15, 16]) (Blk.new w4 _ _) j hj)).mono ?_
    rintro e w5 ⟨⟨j, hj, rfl⟩, hS5, hO⟩
    obtain ⟨v, hvv⟩ : ∃ v, [(0 : Int), 1, 15, 16].getD j 0 = v := ⟨_, rfl⟩
    rw [hvv]
    have O5 := (O4.alloc _).trans hO
    have hg := hS5.lt
    clear hvv hj hO O4 hS4
    go_wp2_with fail
    refine (d_pick w.heap.size n c w5.heap.size 4 a xs [-1, 0, 40000, 40001] _ (hS5.below (below_alloc _ _)) (by omega) (by simp) (by omega) (by omega) (fun j hj => cellsI (l := [-1, 0, 40000, 40001]) (Blk.new w5 _ _) j hj)).mono ?_
    rintro e w6 ⟨⟨j, hj, rfl⟩, hS6, hO⟩
    have hv : (-1 : Int) ≤ [(-1 : Int), 0, 40000, 40001].getD j 0 ∧ [(-1 : Int), 0, 40000, 40001].getD j 0 ≤ 40001 := by
      match j, hj with
      | 0, _ => decide
      | 1, _ => decide
      | 2, _ => decide
      | 3, _ => decide
    obtain ⟨u, huu⟩ : ∃ u, [(-1 : Int), 0, 40000, 40001].getD j 0 = u := ⟨_, rfl⟩
    rw [huu] at hv ⊢
    have O6 := (O5.alloc _).trans hO
    clear huu hj hO O5 hS5
    go_wp2_with fail
    refine bodyPost_ret (v := .tuple #[.int .i64 k, .int .i64 v, .int .i64 f, .int .i64 (f + u)]) (by simp [results, Try.results14, go_sem]) rfl ⟨⟨k, v, f, f + u, rfl⟩, ?_⟩
    exact Off.below L1 O6 L1.size (Nat.le_refl _)
  · go_wp2_with fail
    refine (d_kind8 _ _ _ _ _ _ hS3).mono ?_
    rintro e w4 ⟨⟨k, rfl, k0, k1⟩, hS4, hO⟩
    have O4 := O3.trans hO
    clear hO O3 hS3
    go_wp2_with fail
    refine (d_next _ _ _ _ _ _ _ hS4).mono ?_
    rintro e w5 ⟨⟨q, rfl, _, hq⟩, hS5, hO⟩
    obtain ⟨q0, q1⟩ := hq (by omega)
    have O5 := O4.trans hO
    clear hq hO O4 hS4
    go_wp2_with fail
    refine (d_next _ _ _ _ _ _ _ hS5).mono ?_
    rintro e w6 ⟨⟨u, rfl, _, hu⟩, _, hO⟩
    obtain ⟨u0, u1⟩ := hu (by omega)
    have O6 := O5.trans hO
    clear hu hO O5 hS5
    go_wp2_with fail
    refine bodyPost_ret (v := .tuple #[.int .i64 k, .int .i64 (1 + q), .int .i64 f, .int .i64 (f + u)]) (by simp [results, Try.results14, go_sem]) rfl ⟨⟨k, 1 + q, f, f + u, rfl⟩, ?_⟩
    exact Off.below L1 O6 L1.size (Nat.le_refl _)
end Go.Proofs.Ytnoeakhhokbikaa
