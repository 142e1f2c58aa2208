/- The days of feasts and the days beside them: the program's and the reference's functions return what the plain functions say. Conditions: a feast, a year of the calendar. -/
import Derived.Test.YtmpgokijlikddaaGreatDoorStyle
import Derived.Test.YtmpgokijlikddaaGreatDoorArith
import Derived.Test.YtmpgokijlikddaaGreatDoorBlk
import Derived.Deep.RegionWith
import Derived.BigQuiet
namespace Go.Proofs.YtmpgokijlikddaaGreatDoor
set_option linter.unusedSimpArgs false
open Go.RowKit
def fxM : List Int := [1, 1, 2, 3, 6, 6, 8, 8, 9, 11, 11, 11, 12, 12]
def fxD : List Int := [1, 6, 2, 25, 24, 29, 10, 15, 29, 1, 11, 30, 6, 25]
def mvB : List Int := [-46, -7, 0, 39, 49, 56]
theorem fx_bd : ∀ k, k < 14 → 1 ≤ fxM.getD k 0 ∧ fxM.getD k 0 ≤ 12 ∧ 1 ≤ fxD.getD k 0 ∧ fxD.getD k 0 ≤ 30 := by decide
theorem mv_bd : ∀ k, k < 6 → -46 ≤ mvB.getD k 0 ∧ mvB.getD k 0 ≤ 56 := by decide
/-- the day of the feast k in the year y -/
def fdF (k : Nat) (y : Int) : Int := if k < 14 then num y (fxM.getD k 0) (fxD.getD k 0) else easter y + mvB.getD (k - 14) 0
theorem fd_bd {k : Nat} {y : Int} (hk : k < 20) (h0 : 1 ≤ y) (h1 : y ≤ 2000) : 0 ≤ fdF k y ∧ fdF k y ≤ 1000000 := by
  have hn := nyear_bd y h0 (by omega)
  have ny : nyear y ≤ 730500 := by unfold nyear; omega
  have n0 : 0 ≤ nyear y := by unfold nyear; omega
  unfold fdF
  split
  · rename_i h
    obtain ⟨a, b, c, d⟩ := fx_bd k h
    have := cum_bd y (fxM.getD k 0) a (by omega)
    unfold num
    omega
  · have e := easter_bd y
    obtain ⟨a, b⟩ := mv_bd (k - 14) (by omega)
    omega
/-- the day with a relation to the feast k -/
def reF (k : Nat) (r d y : Int) : Int :=
  if r = 1 then fdF k y - 1 else if r = 2 then fdF k y + 7 else if r = 3 then fdF k y + 1 + (d - (fdF k y + 5) % 7 + 13) % 7 else if r = 4 then fdF k y - 1 - ((fdF k y + 5) % 7 - d + 13) % 7 else fdF k y
theorem cells_ints {w : World} {b : Nat} {t : TypeId} {l : List Int} (h : Blk w b t ⟨l.map (Value.int .i64)⟩) (j : Nat) (hj : j < l.length) : w.cell? ⟨b, j, none⟩ = some (.int .i64 (l.getD j 0)) := by
  rw [h.cell j]
  simp [hj]
theorem fd_0 {k : Nat} {y : Int} (h : k < 14) : fdF k y = num y (fxM.getD k 0) (fxD.getD k 0) := by unfold fdF; rw [if_pos h]
theorem fd_1 {k : Nat} {y : Int} (h : ¬ k < 14) : fdF k y = easter y + mvB.getD (k - 14) 0 := by unfold fdF; rw [if_neg h]
theorem fx_cells (w : World) (k : Nat) (h : k < 14) : ((w.alloc (.cells #[.int .i64 1, .int .i64 1, .int .i64 2, .int .i64 3, .int .i64 6, .int .i64 6, .int .i64 8, .int .i64 8, .int .i64 9, .int .i64 11, .int .i64 11, .int .i64 11, .int .i64 12, .int .i64 12] 2)).alloc (.cells #[.int .i64 1, .int .i64 6, .int .i64 2, .int .i64 25, .int .i64 24, .int .i64 29, .int .i64 10, .int .i64 15, .int .i64 29, .int .i64 1, .int .i64 11, .int .i64 30, .int .i64 6, .int .i64 25] 2)).cell? ⟨w.heap.size, k, none⟩ = some (.int .i64 (fxM.getD k 0)) ∧ ((w.alloc (.cells #[.int .i64 1, .int .i64 1, .int .i64 2, .int .i64 3, .int .i64 6, .int .i64 6, .int .i64 8, .int .i64 8, .int .i64 9, .int .i64 11, .int .i64 11, .int .i64 11, .int .i64 12, .int .i64 12] 2)).alloc (.cells #[.int .i64 1, .int .i64 6, .int .i64 2, .int .i64 25, .int .i64 24, .int .i64 29, .int .i64 10, .int .i64 15, .int .i64 29, .int .i64 1, .int .i64 11, .int .i64 30, .int .i64 6, .int .i64 25] 2)).cell? ⟨w.heap.size + 1, k, none⟩ = some (.int .i64 (fxD.getD k 0)) := by
  have B1 := (Blk.new w 2 ⟨fxM.map (Value.int .i64)⟩).alloc (.cells ⟨fxD.map (Value.int .i64)⟩ 2)
  have B2 := Blk.new (w.alloc (.cells ⟨fxM.map (Value.int .i64)⟩ 2)) 2 ⟨fxD.map (Value.int .i64)⟩
  have c1 := cells_ints B1 k h
  have c2 := cells_ints B2 k h
  have e : (w.alloc (.cells ⟨fxM.map (Value.int .i64)⟩ 2)).heap.size = w.heap.size + 1 := by simp
  rw [e] at c2
  exact ⟨c1, c2⟩
theorem fx_below (w : World) : Below w.heap.size w ((w.alloc (.cells #[.int .i64 1, .int .i64 1, .int .i64 2, .int .i64 3, .int .i64 6, .int .i64 6, .int .i64 8, .int .i64 8, .int .i64 9, .int .i64 11, .int .i64 11, .int .i64 11, .int .i64 12, .int .i64 12] 2)).alloc (.cells #[.int .i64 1, .int .i64 6, .int .i64 2, .int .i64 25, .int .i64 24, .int .i64 29, .int .i64 10, .int .i64 15, .int .i64 29, .int .i64 1, .int .i64 11, .int .i64 30, .int .i64 6, .int .i64 25] 2)) := below_more (below_alloc w _) (by simp) _
theorem fx_size (w : World) : ((w.alloc (.cells #[.int .i64 1, .int .i64 1, .int .i64 2, .int .i64 3, .int .i64 6, .int .i64 6, .int .i64 8, .int .i64 8, .int .i64 9, .int .i64 11, .int .i64 11, .int .i64 11, .int .i64 12, .int .i64 12] 2)).alloc (.cells #[.int .i64 1, .int .i64 6, .int .i64 2, .int .i64 25, .int .i64 24, .int .i64 29, .int .i64 10, .int .i64 15, .int .i64 29, .int .i64 1, .int .i64 11, .int .i64 30, .int .i64 6, .int .i64 25] 2)).heap.size = w.heap.size + 2 := by simp
theorem mv_cell {W : World} {g : Nat} (h : Blk W g 2 #[.int .i64 (-46), .int .i64 (-7), .int .i64 0, .int .i64 39, .int .i64 49, .int .i64 56]) (j : Nat) (hj : j < 6) : W.cell? ⟨g, j, none⟩ = some (.int .i64 (mvB.getD j 0)) := cells_ints (l := mvB) h j hj
set_option maxRecDepth 100000 in
set_option maxHeartbeats 2000000 in
theorem s_fday (k : Nat) (y : Int) (w : World) (hk : k < 20) (h0 : 1 ≤ y) (h1 : y ≤ 2000) : Calls Tryz.prog 207 #[.int .i64 k, .int .i64 y] w fun e w' => e = .returned (.int .i64 (fdF k y)) ∧ Below w.heap.size w w' := by
  by_cases h14 : k < 14
  · rw [fd_0 h14]
    obtain ⟨b1, b2, b3, b4⟩ := fx_bd k h14
    have hkk : (k : Int) < 14 := by omega
    obtain ⟨c1, c2⟩ := fx_cells w k h14
    obtain ⟨m, hm⟩ : ∃ m, fxM.getD k 0 = m := ⟨_, rfl⟩
    obtain ⟨d, hd⟩ : ∃ d, fxD.getD k 0 = d := ⟨_, rfl⟩
    rw [hm] at b1 b2 c1 ⊢
    rw [hd] at b3 b4 c2 ⊢
    have LL := fx_below w
    have hz := fx_size w
    clear hm hd
    go_enter Tryz.func207, Tryz.ntmps207
    go_wp2_with fail
    generalize (w.alloc (.cells #[.int .i64 1, .int .i64 1, .int .i64 2, .int .i64 3, .int .i64 6, .int .i64 6, .int .i64 8, .int .i64 8, .int .i64 9, .int .i64 11, .int .i64 11, .int .i64 11, .int .i64 12, .int .i64 12] 2)).alloc (.cells #[.int .i64 1, .int .i64 6, .int .i64 2, .int .i64 25, .int .i64 24, .int .i64 29, .int .i64 10, .int .i64 15, .int .i64 29, .int .i64 1, .int .i64 11, .int .i64 30, .int .i64 6, .int .i64 25] 2) = wz at *
    refine wp_region_any (by kernel_rfl) ?_
    change wpAny _ _ _ _ _ _ _ (World.drew _)
    refine wpAny_take (i := 0) (v := .int .i64 y) rfl (by kernel_rfl) (by kernel_rfl) (by kernel_rfl) (fun _ _ _ h => h) (Or.inl ⟨by kernel_rfl, fun W => by first | rfl | go_simp⟩) ?_
    simp only [Act.put, List.getElem_toArray, List.getElem_cons_succ, List.getElem_cons_zero, List.setIfInBounds_toArray, List.set_cons_succ, List.set_cons_zero]
    refine wpAny_take (i := 1) (v := .slice (some ⟨w.heap.size, 0, none⟩) 14 14) rfl (by kernel_rfl) (by kernel_rfl) (by kernel_rfl) (fun _ _ _ h => h) (Or.inl ⟨by kernel_rfl, fun W => by first | rfl | go_simp⟩) ?_
    simp only [Act.put, List.getElem_toArray, List.getElem_cons_succ, List.getElem_cons_zero, List.setIfInBounds_toArray, List.set_cons_succ, List.set_cons_zero]
    refine wpAny_take (i := 2) (v := .int .i64 (k : Int)) rfl (by kernel_rfl) (by kernel_rfl) (by kernel_rfl) (fun _ _ _ h => h) (Or.inl ⟨by kernel_rfl, fun W => by first | rfl | go_simp⟩) ?_
    simp only [Act.put, List.getElem_toArray, List.getElem_cons_succ, List.getElem_cons_zero, List.setIfInBounds_toArray, List.set_cons_succ, List.set_cons_zero]
    refine wpAny_take (i := 3) (v := .pointer (some ⟨w.heap.size, k, none⟩)) rfl (by kernel_rfl) (by kernel_rfl) (by kernel_rfl) (fun _ _ _ h => h) (Or.inl ⟨by kernel_rfl, fun W => by first | rfl | go_simp⟩) ?_
    simp only [Act.put, List.getElem_toArray, List.getElem_cons_succ, List.getElem_cons_zero, List.setIfInBounds_toArray, List.set_cons_succ, List.set_cons_zero]
    refine wpAny_take (i := 5) (v := .slice (some ⟨w.heap.size + 1, 0, none⟩) 14 14) rfl (by kernel_rfl) (by kernel_rfl) (by kernel_rfl) (fun _ _ _ h => h) (Or.inl ⟨by kernel_rfl, fun W => by first | rfl | go_simp⟩) ?_
    simp only [Act.put, List.getElem_toArray, List.getElem_cons_succ, List.getElem_cons_zero, List.setIfInBounds_toArray, List.set_cons_succ, List.set_cons_zero]
    refine wpAny_take (i := 6) (v := .int .i64 (k : Int)) rfl (by kernel_rfl) (by kernel_rfl) (by kernel_rfl) (fun _ _ _ h => h) (Or.inl ⟨by kernel_rfl, fun W => by first | rfl | go_simp⟩) ?_
    simp only [Act.put, List.getElem_toArray, List.getElem_cons_succ, List.getElem_cons_zero, List.setIfInBounds_toArray, List.set_cons_succ, List.set_cons_zero]
    refine wpAny_take (i := 7) (v := .pointer (some ⟨w.heap.size + 1, k, none⟩)) rfl (by kernel_rfl) (by kernel_rfl) (by kernel_rfl) (fun _ _ _ h => h) (Or.inl ⟨by kernel_rfl, fun W => by first | rfl | go_simp⟩) ?_
    simp only [Act.put, List.getElem_toArray, List.getElem_cons_succ, List.getElem_cons_zero, List.setIfInBounds_toArray, List.set_cons_succ, List.set_cons_zero]
    refine wpAny_ready (rs := [4, 8]) (by kernel_rfl) (by simp) ?_
    refine AllReady.cons rfl (fun K hK => ?_) (AllReady.cons rfl (fun K hK => ?_) AllReady.nil)
    · go_simp
      refine hK _ _ ?_
      clear hK K
      refine wpAny_ready (rs := [8]) (by kernel_rfl) (by simp) ?_
      refine AllReady.cons rfl (fun K hK => ?_) AllReady.nil
      go_simp
      refine hK _ _ ?_
      clear hK K
      refine wpAny_take (i := 9) (v := .agg #[.int .i64 y, .int .i64 m, .int .i64 d]) rfl (by kernel_rfl) (by kernel_rfl) (by kernel_rfl) (fun _ _ _ h => h) (Or.inl ⟨by kernel_rfl, fun W => by first | rfl | go_simp⟩) ?_
      simp only [Act.put, List.getElem_toArray, List.getElem_cons_succ, List.getElem_cons_zero, List.setIfInBounds_toArray, List.set_cons_succ, List.set_cons_zero]
      refine wpAny_ready (rs := [10]) (by kernel_rfl) (by simp) ?_
      refine AllReady.cons rfl (fun K hK => ?_) AllReady.nil
      go_simp
      go_at_call 186
      refine (s_num y m d _ h0 (by omega) b1 b2 (by omega) (by omega)).mono ?_
      rintro e w1 ⟨rfl, hb⟩
      refine hK _ _ ?_
      clear hK K
      refine wpAny_take (i := 11) (v := .int .i64 (num y m d)) rfl (by kernel_rfl) (by kernel_rfl) (by kernel_rfl) (fun _ _ _ h => h) (Or.inl ⟨by kernel_rfl, fun W => by first | rfl | go_simp⟩) ?_
      simp only [Act.put, List.getElem_toArray, List.getElem_cons_succ, List.getElem_cons_zero, List.setIfInBounds_toArray, List.set_cons_succ, List.set_cons_zero]
      refine wpAny_done (by kernel_rfl) ?_ _
      try simp only [List.getElem_toArray, List.getElem_cons_succ, List.getElem_cons_zero, List.setIfInBounds_toArray, List.set_cons_succ, List.set_cons_zero]
      go_wp2_with fail
      go_ret
      exact ⟨rfl, below_step LL.drew hb⟩
    · go_simp
      refine hK _ _ ?_
      clear hK K
      refine wpAny_ready (rs := [4]) (by kernel_rfl) (by simp) ?_
      refine AllReady.cons rfl (fun K hK => ?_) AllReady.nil
      go_simp
      refine hK _ _ ?_
      clear hK K
      refine wpAny_take (i := 9) (v := .agg #[.int .i64 y, .int .i64 m, .int .i64 d]) rfl (by kernel_rfl) (by kernel_rfl) (by kernel_rfl) (fun _ _ _ h => h) (Or.inl ⟨by kernel_rfl, fun W => by first | rfl | go_simp⟩) ?_
      simp only [Act.put, List.getElem_toArray, List.getElem_cons_succ, List.getElem_cons_zero, List.setIfInBounds_toArray, List.set_cons_succ, List.set_cons_zero]
      refine wpAny_ready (rs := [10]) (by kernel_rfl) (by simp) ?_
      refine AllReady.cons rfl (fun K hK => ?_) AllReady.nil
      go_simp
      go_at_call 186
      refine (s_num y m d _ h0 (by omega) b1 b2 (by omega) (by omega)).mono ?_
      rintro e w1 ⟨rfl, hb⟩
      refine hK _ _ ?_
      clear hK K
      refine wpAny_take (i := 11) (v := .int .i64 (num y m d)) rfl (by kernel_rfl) (by kernel_rfl) (by kernel_rfl) (fun _ _ _ h => h) (Or.inl ⟨by kernel_rfl, fun W => by first | rfl | go_simp⟩) ?_
      simp only [Act.put, List.getElem_toArray, List.getElem_cons_succ, List.getElem_cons_zero, List.setIfInBounds_toArray, List.set_cons_succ, List.set_cons_zero]
      refine wpAny_done (by kernel_rfl) ?_ _
      try simp only [List.getElem_toArray, List.getElem_cons_succ, List.getElem_cons_zero, List.setIfInBounds_toArray, List.set_cons_succ, List.set_cons_zero]
      go_wp2_with fail
      go_ret
      exact ⟨rfl, below_step LL.drew hb⟩
  · rw [fd_1 h14]
    obtain ⟨j, rfl⟩ : ∃ j, k = 14 + j := ⟨k - 14, by omega⟩
    have hj : j < 6 := by omega
    rw [show 14 + j - 14 = j by omega]
    obtain ⟨b1, b2⟩ := mv_bd j hj
    have hes := eS_bd y
    have he := easter_bd y
    have hn := nyear_bd y h0 (by omega)
    have hn2 : nyear y ≤ 730500 := by unfold nyear; omega
    have hwj : IntKind.i64.wrap (((14 + j : Nat) : Int) - 14) = (j : Int) := by rw [IntWalk.i64_in _ (by omega)]; omega
    have hkk : (14 : Int) ≤ ((14 + j : Nat) : Int) := by omega
    have LL := fx_below w
    have CJ := Lib.hid (fun (W : World) (g : Nat) (h : Blk W g 2 #[.int .i64 (-46), .int .i64 (-7), .int .i64 0, .int .i64 39, .int .i64 49, .int .i64 56]) => mv_cell h j hj)
    obtain ⟨v, hv⟩ : ∃ v, mvB.getD j 0 = v := ⟨_, rfl⟩
    rw [hv] at b1 b2 CJ ⊢
    have ES := Lib.hid (fun W => s_l04Old y W (by omega) (by omega))
    have EN := Lib.hid (fun W => s_num y (eS y / 31) (eS y % 31 + 1) W h0 (by omega) (by omega) (by omega) (by omega) (by omega))
    obtain ⟨em, hem⟩ : ∃ m, eS y / 31 = m := ⟨_, rfl⟩
    obtain ⟨ed, hed⟩ : ∃ m, eS y % 31 + 1 = m := ⟨_, rfl⟩
    have hE : num y em ed = easter y := by unfold easter; rw [hem, hed]
    rw [hem, hed] at ES EN
    rw [hE] at EN
    obtain ⟨E, hEE⟩ : ∃ e, easter y = e := ⟨_, rfl⟩
    rw [hEE] at EN he ⊢
    have hw1 : IntKind.i64.wrap (E + v) = E + v := IntWalk.i64_in _ (by omega)
    obtain ⟨kk, hkk2⟩ : ∃ kk : Int, ((14 + j : Nat) : Int) = kk := ⟨_, rfl⟩
    rw [hkk2] at hwj hkk ⊢
    have hj6 : (j : Int) < 6 := by omega
    clear hv hem hed hE hEE hes h14 hkk2 hn hn2
    go_enter Tryz.func207, Tryz.ntmps207
    go_wp2_with fail
    generalize (w.alloc (.cells #[.int .i64 1, .int .i64 1, .int .i64 2, .int .i64 3, .int .i64 6, .int .i64 6, .int .i64 8, .int .i64 8, .int .i64 9, .int .i64 11, .int .i64 11, .int .i64 11, .int .i64 12, .int .i64 12] 2)).alloc (.cells #[.int .i64 1, .int .i64 6, .int .i64 2, .int .i64 25, .int .i64 24, .int .i64 29, .int .i64 10, .int .i64 15, .int .i64 29, .int .i64 1, .int .i64 11, .int .i64 30, .int .i64 6, .int .i64 25] 2) = wz at *
    refine wp_region_any (by kernel_rfl) ?_
    change wpAny _ _ _ _ _ _ _ (World.drew _)
    refine wpAny_take (i := 0) (v := .int .i64 y) rfl (by kernel_rfl) (by kernel_rfl) (by kernel_rfl) (fun _ _ _ h => h) (Or.inl ⟨by kernel_rfl, fun W => by first | rfl | go_simp⟩) ?_
    simp only [Act.put, List.getElem_toArray, List.getElem_cons_succ, List.getElem_cons_zero, List.setIfInBounds_toArray, List.set_cons_succ, List.set_cons_zero]
    refine wpAny_take (i := 4) (v := .int .i64 kk) rfl (by kernel_rfl) (by kernel_rfl) (by kernel_rfl) (fun _ _ _ h => h) (Or.inl ⟨by kernel_rfl, fun W => by first | rfl | go_simp⟩) ?_
    simp only [Act.put, List.getElem_toArray, List.getElem_cons_succ, List.getElem_cons_zero, List.setIfInBounds_toArray, List.set_cons_succ, List.set_cons_zero]
    refine wpAny_take (i := 5) (v := .int .i64 (j : Int)) rfl (by kernel_rfl) (by kernel_rfl) (by kernel_rfl) (fun _ _ _ h => h) (Or.inl ⟨by kernel_rfl, fun W => by first | rfl | go_simp⟩) ?_
    simp only [Act.put, List.getElem_toArray, List.getElem_cons_succ, List.getElem_cons_zero, List.setIfInBounds_toArray, List.set_cons_succ, List.set_cons_zero]
    refine wpAny_ready (rs := [1, 3]) (by kernel_rfl) (by simp) ?_
    refine AllReady.cons rfl (fun K hK => ?_) (AllReady.cons rfl (fun K hK => ?_) AllReady.nil)
    · go_simp
      go_at_call 259
      refine (ES.out _).mono ?_
      rintro e w1 ⟨rfl, hb1⟩
      refine hK _ _ ?_
      clear hK K
      refine wpAny_ready (rs := [2, 3]) (by kernel_rfl) (by simp) ?_
      refine AllReady.cons rfl (fun K hK => ?_) (AllReady.cons rfl (fun K hK => ?_) AllReady.nil)
      · go_simp
        go_at_call 186
        refine (EN.out _).mono ?_
        rintro e w2 ⟨rfl, hb2⟩
        refine hK _ _ ?_
        clear hK K
        refine wpAny_ready (rs := [3]) (by kernel_rfl) (by simp) ?_
        refine AllReady.cons rfl (fun K hK => ?_) AllReady.nil
        go_simp
        refine hK _ _ ?_
        clear hK K
        have cj3 : (w2.alloc (.cells #[.int .i64 (-46), .int .i64 (-7), .int .i64 0, .int .i64 39, .int .i64 49, .int .i64 56] 2)).cell? ⟨w2.heap.size, j, none⟩ = some (.int .i64 v) := CJ.out _ _ (Blk.new w2 2 #[.int .i64 (-46), .int .i64 (-7), .int .i64 0, .int .i64 39, .int .i64 49, .int .i64 56])
        refine wpAny_take (i := 6) (v := .pointer (some ⟨w2.heap.size, j, none⟩)) rfl (by kernel_rfl) (by kernel_rfl) (by kernel_rfl) (fun _ _ _ h => h) (Or.inl ⟨by kernel_rfl, fun W => by first | rfl | go_simp⟩) ?_
        simp only [Act.put, List.getElem_toArray, List.getElem_cons_succ, List.getElem_cons_zero, List.setIfInBounds_toArray, List.set_cons_succ, List.set_cons_zero]
        refine wpAny_ready (rs := [7]) (by kernel_rfl) (by simp) ?_
        refine AllReady.cons rfl (fun K hK => ?_) AllReady.nil
        go_simp
        refine hK _ _ ?_
        clear hK K
        refine wpAny_take (i := 8) (v := .int .i64 (E + v)) rfl (by kernel_rfl) (by kernel_rfl) (by kernel_rfl) (fun _ _ _ h => h) (Or.inl ⟨by kernel_rfl, fun W => by first | rfl | go_simp⟩) ?_
        simp only [Act.put, List.getElem_toArray, List.getElem_cons_succ, List.getElem_cons_zero, List.setIfInBounds_toArray, List.set_cons_succ, List.set_cons_zero]
        refine wpAny_take (i := 9) (v := .int .i64 (E + v)) rfl (by kernel_rfl) (by kernel_rfl) (by kernel_rfl) (fun _ _ _ h => h) (Or.inl ⟨by kernel_rfl, fun W => by first | rfl | go_simp⟩) ?_
        simp only [Act.put, List.getElem_toArray, List.getElem_cons_succ, List.getElem_cons_zero, List.setIfInBounds_toArray, List.set_cons_succ, List.set_cons_zero]
        refine wpAny_done (by kernel_rfl) ?_ _
        try simp only [List.getElem_toArray, List.getElem_cons_succ, List.getElem_cons_zero, List.setIfInBounds_toArray, List.set_cons_succ, List.set_cons_zero]
        go_wp2_with fail
        go_ret
        exact ⟨rfl, (below_more (below_step (below_step LL.drew hb1) hb2) (below_step (below_step LL.drew hb1) hb2).size _)⟩
      · go_simp
        refine hK _ _ ?_
        clear hK K
        have cj2 : (w1.alloc (.cells #[.int .i64 (-46), .int .i64 (-7), .int .i64 0, .int .i64 39, .int .i64 49, .int .i64 56] 2)).cell? ⟨w1.heap.size, j, none⟩ = some (.int .i64 v) := CJ.out _ _ (Blk.new w1 2 #[.int .i64 (-46), .int .i64 (-7), .int .i64 0, .int .i64 39, .int .i64 49, .int .i64 56])
        refine wpAny_take (i := 6) (v := .pointer (some ⟨w1.heap.size, j, none⟩)) rfl (by kernel_rfl) (by kernel_rfl) (by kernel_rfl) (fun _ _ _ h => h) (Or.inl ⟨by kernel_rfl, fun W => by first | rfl | go_simp⟩) ?_
        simp only [Act.put, List.getElem_toArray, List.getElem_cons_succ, List.getElem_cons_zero, List.setIfInBounds_toArray, List.set_cons_succ, List.set_cons_zero]
        refine wpAny_ready (rs := [2, 7]) (by kernel_rfl) (by simp) ?_
        refine AllReady.cons rfl (fun K hK => ?_) (AllReady.cons rfl (fun K hK => ?_) AllReady.nil)
        · go_simp
          go_at_call 186
          refine (EN.out _).mono ?_
          rintro e w2 ⟨rfl, hb2⟩
          have cj3 : w2.cell? ⟨w1.heap.size, j, none⟩ = some (.int .i64 v) := CJ.out _ _ ((Blk.new w1 2 #[.int .i64 (-46), .int .i64 (-7), .int .i64 0, .int .i64 39, .int .i64 49, .int .i64 56]).below hb2 (Blk.new w1 2 #[.int .i64 (-46), .int .i64 (-7), .int .i64 0, .int .i64 39, .int .i64 49, .int .i64 56]).lt)
          refine hK _ _ ?_
          clear hK K
          refine wpAny_ready (rs := [7]) (by kernel_rfl) (by simp) ?_
          refine AllReady.cons rfl (fun K hK => ?_) AllReady.nil
          go_simp
          refine hK _ _ ?_
          clear hK K
          refine wpAny_take (i := 8) (v := .int .i64 (E + v)) rfl (by kernel_rfl) (by kernel_rfl) (by kernel_rfl) (fun _ _ _ h => h) (Or.inl ⟨by kernel_rfl, fun W => by first | rfl | go_simp⟩) ?_
          simp only [Act.put, List.getElem_toArray, List.getElem_cons_succ, List.getElem_cons_zero, List.setIfInBounds_toArray, List.set_cons_succ, List.set_cons_zero]
          refine wpAny_take (i := 9) (v := .int .i64 (E + v)) rfl (by kernel_rfl) (by kernel_rfl) (by kernel_rfl) (fun _ _ _ h => h) (Or.inl ⟨by kernel_rfl, fun W => by first | rfl | go_simp⟩) ?_
          simp only [Act.put, List.getElem_toArray, List.getElem_cons_succ, List.getElem_cons_zero, List.setIfInBounds_toArray, List.set_cons_succ, List.set_cons_zero]
          refine wpAny_done (by kernel_rfl) ?_ _
          try simp only [List.getElem_toArray, List.getElem_cons_succ, List.getElem_cons_zero, List.setIfInBounds_toArray, List.set_cons_succ, List.set_cons_zero]
          go_wp2_with fail
          go_ret
          exact ⟨rfl, (below_step (below_more (below_step LL.drew hb1) (below_step LL.drew hb1).size _) hb2)⟩
        · go_simp
          refine hK _ _ ?_
          clear hK K
          refine wpAny_ready (rs := [2]) (by kernel_rfl) (by simp) ?_
          refine AllReady.cons rfl (fun K hK => ?_) AllReady.nil
          go_simp
          go_at_call 186
          refine (EN.out _).mono ?_
          rintro e w2 ⟨rfl, hb2⟩
          have cj4 : w2.cell? ⟨w1.heap.size, j, none⟩ = some (.int .i64 v) := CJ.out _ _ ((Blk.new w1 2 #[.int .i64 (-46), .int .i64 (-7), .int .i64 0, .int .i64 39, .int .i64 49, .int .i64 56]).below hb2 (Blk.new w1 2 #[.int .i64 (-46), .int .i64 (-7), .int .i64 0, .int .i64 39, .int .i64 49, .int .i64 56]).lt)
          refine hK _ _ ?_
          clear hK K
          refine wpAny_take (i := 8) (v := .int .i64 (E + v)) rfl (by kernel_rfl) (by kernel_rfl) (by kernel_rfl) (fun _ _ _ h => h) (Or.inl ⟨by kernel_rfl, fun W => by first | rfl | go_simp⟩) ?_
          simp only [Act.put, List.getElem_toArray, List.getElem_cons_succ, List.getElem_cons_zero, List.setIfInBounds_toArray, List.set_cons_succ, List.set_cons_zero]
          refine wpAny_take (i := 9) (v := .int .i64 (E + v)) rfl (by kernel_rfl) (by kernel_rfl) (by kernel_rfl) (fun _ _ _ h => h) (Or.inl ⟨by kernel_rfl, fun W => by first | rfl | go_simp⟩) ?_
          simp only [Act.put, List.getElem_toArray, List.getElem_cons_succ, List.getElem_cons_zero, List.setIfInBounds_toArray, List.set_cons_succ, List.set_cons_zero]
          refine wpAny_done (by kernel_rfl) ?_ _
          try simp only [List.getElem_toArray, List.getElem_cons_succ, List.getElem_cons_zero, List.setIfInBounds_toArray, List.set_cons_succ, List.set_cons_zero]
          go_wp2_with fail
          go_ret
          exact ⟨rfl, (below_step (below_more (below_step LL.drew hb1) (below_step LL.drew hb1).size _) hb2)⟩
    · go_simp
      refine hK _ _ ?_
      clear hK K
      have cj1 : (wz.alloc (.cells #[.int .i64 (-46), .int .i64 (-7), .int .i64 0, .int .i64 39, .int .i64 49, .int .i64 56] 2)).cell? ⟨wz.heap.size, j, none⟩ = some (.int .i64 v) := CJ.out _ _ (Blk.new wz 2 #[.int .i64 (-46), .int .i64 (-7), .int .i64 0, .int .i64 39, .int .i64 49, .int .i64 56]).drew
      refine wpAny_take (i := 6) (v := .pointer (some ⟨wz.heap.size, j, none⟩)) rfl (by kernel_rfl) (by kernel_rfl) (by kernel_rfl) (fun _ _ _ h => h) (Or.inl ⟨by kernel_rfl, fun W => by first | rfl | go_simp⟩) ?_
      simp only [Act.put, List.getElem_toArray, List.getElem_cons_succ, List.getElem_cons_zero, List.setIfInBounds_toArray, List.set_cons_succ, List.set_cons_zero]
      refine wpAny_ready (rs := [1, 7]) (by kernel_rfl) (by simp) ?_
      refine AllReady.cons rfl (fun K hK => ?_) (AllReady.cons rfl (fun K hK => ?_) AllReady.nil)
      · go_simp
        go_at_call 259
        refine (ES.out _).mono ?_
        rintro e w1 ⟨rfl, hb1⟩
        have cj2 : w1.cell? ⟨wz.heap.size, j, none⟩ = some (.int .i64 v) := CJ.out _ _ ((Blk.new wz 2 #[.int .i64 (-46), .int .i64 (-7), .int .i64 0, .int .i64 39, .int .i64 49, .int .i64 56]).drew.below hb1 (Blk.new wz 2 #[.int .i64 (-46), .int .i64 (-7), .int .i64 0, .int .i64 39, .int .i64 49, .int .i64 56]).drew.lt)
        refine hK _ _ ?_
        clear hK K
        refine wpAny_ready (rs := [2, 7]) (by kernel_rfl) (by simp) ?_
        refine AllReady.cons rfl (fun K hK => ?_) (AllReady.cons rfl (fun K hK => ?_) AllReady.nil)
        · go_simp
          go_at_call 186
          refine (EN.out _).mono ?_
          rintro e w2 ⟨rfl, hb2⟩
          have cj3 : w2.cell? ⟨wz.heap.size, j, none⟩ = some (.int .i64 v) := CJ.out _ _ (((Blk.new wz 2 #[.int .i64 (-46), .int .i64 (-7), .int .i64 0, .int .i64 39, .int .i64 49, .int .i64 56]).drew.below hb1 (Blk.new wz 2 #[.int .i64 (-46), .int .i64 (-7), .int .i64 0, .int .i64 39, .int .i64 49, .int .i64 56]).drew.lt).below hb2 ((Blk.new wz 2 #[.int .i64 (-46), .int .i64 (-7), .int .i64 0, .int .i64 39, .int .i64 49, .int .i64 56]).drew.below hb1 (Blk.new wz 2 #[.int .i64 (-46), .int .i64 (-7), .int .i64 0, .int .i64 39, .int .i64 49, .int .i64 56]).drew.lt).lt)
          refine hK _ _ ?_
          clear hK K
          refine wpAny_ready (rs := [7]) (by kernel_rfl) (by simp) ?_
          refine AllReady.cons rfl (fun K hK => ?_) AllReady.nil
          go_simp
          refine hK _ _ ?_
          clear hK K
          refine wpAny_take (i := 8) (v := .int .i64 (E + v)) rfl (by kernel_rfl) (by kernel_rfl) (by kernel_rfl) (fun _ _ _ h => h) (Or.inl ⟨by kernel_rfl, fun W => by first | rfl | go_simp⟩) ?_
          simp only [Act.put, List.getElem_toArray, List.getElem_cons_succ, List.getElem_cons_zero, List.setIfInBounds_toArray, List.set_cons_succ, List.set_cons_zero]
          refine wpAny_take (i := 9) (v := .int .i64 (E + v)) rfl (by kernel_rfl) (by kernel_rfl) (by kernel_rfl) (fun _ _ _ h => h) (Or.inl ⟨by kernel_rfl, fun W => by first | rfl | go_simp⟩) ?_
          simp only [Act.put, List.getElem_toArray, List.getElem_cons_succ, List.getElem_cons_zero, List.setIfInBounds_toArray, List.set_cons_succ, List.set_cons_zero]
          refine wpAny_done (by kernel_rfl) ?_ _
          try simp only [List.getElem_toArray, List.getElem_cons_succ, List.getElem_cons_zero, List.setIfInBounds_toArray, List.set_cons_succ, List.set_cons_zero]
          go_wp2_with fail
          go_ret
          exact ⟨rfl, (below_step (below_step (below_more LL LL.size _).drew hb1) hb2)⟩
        · go_simp
          refine hK _ _ ?_
          clear hK K
          refine wpAny_ready (rs := [2]) (by kernel_rfl) (by simp) ?_
          refine AllReady.cons rfl (fun K hK => ?_) AllReady.nil
          go_simp
          go_at_call 186
          refine (EN.out _).mono ?_
          rintro e w2 ⟨rfl, hb2⟩
          have cj4 : w2.cell? ⟨wz.heap.size, j, none⟩ = some (.int .i64 v) := CJ.out _ _ (((Blk.new wz 2 #[.int .i64 (-46), .int .i64 (-7), .int .i64 0, .int .i64 39, .int .i64 49, .int .i64 56]).drew.below hb1 (Blk.new wz 2 #[.int .i64 (-46), .int .i64 (-7), .int .i64 0, .int .i64 39, .int .i64 49, .int .i64 56]).drew.lt).below hb2 ((Blk.new wz 2 #[.int .i64 (-46), .int .i64 (-7), .int .i64 0, .int .i64 39, .int .i64 49, .int .i64 56]).drew.below hb1 (Blk.new wz 2 #[.int .i64 (-46), .int .i64 (-7), .int .i64 0, .int .i64 39, .int .i64 49, .int .i64 56]).drew.lt).lt)
          refine hK _ _ ?_
          clear hK K
          refine wpAny_take (i := 8) (v := .int .i64 (E + v)) rfl (by kernel_rfl) (by kernel_rfl) (by kernel_rfl) (fun _ _ _ h => h) (Or.inl ⟨by kernel_rfl, fun W => by first | rfl | go_simp⟩) ?_
          simp only [Act.put, List.getElem_toArray, List.getElem_cons_succ, List.getElem_cons_zero, List.setIfInBounds_toArray, List.set_cons_succ, List.set_cons_zero]
          refine wpAny_take (i := 9) (v := .int .i64 (E + v)) rfl (by kernel_rfl) (by kernel_rfl) (by kernel_rfl) (fun _ _ _ h => h) (Or.inl ⟨by kernel_rfl, fun W => by first | rfl | go_simp⟩) ?_
          simp only [Act.put, List.getElem_toArray, List.getElem_cons_succ, List.getElem_cons_zero, List.setIfInBounds_toArray, List.set_cons_succ, List.set_cons_zero]
          refine wpAny_done (by kernel_rfl) ?_ _
          try simp only [List.getElem_toArray, List.getElem_cons_succ, List.getElem_cons_zero, List.setIfInBounds_toArray, List.set_cons_succ, List.set_cons_zero]
          go_wp2_with fail
          go_ret
          exact ⟨rfl, (below_step (below_step (below_more LL LL.size _).drew hb1) hb2)⟩
      · go_simp
        refine hK _ _ ?_
        clear hK K
        refine wpAny_ready (rs := [1]) (by kernel_rfl) (by simp) ?_
        refine AllReady.cons rfl (fun K hK => ?_) AllReady.nil
        go_simp
        go_at_call 259
        refine (ES.out _).mono ?_
        rintro e w1 ⟨rfl, hb1⟩
        have cj3 : w1.cell? ⟨wz.heap.size, j, none⟩ = some (.int .i64 v) := CJ.out _ _ ((Blk.new wz 2 #[.int .i64 (-46), .int .i64 (-7), .int .i64 0, .int .i64 39, .int .i64 49, .int .i64 56]).drew.below hb1 (Blk.new wz 2 #[.int .i64 (-46), .int .i64 (-7), .int .i64 0, .int .i64 39, .int .i64 49, .int .i64 56]).drew.lt)
        refine hK _ _ ?_
        clear hK K
        refine wpAny_ready (rs := [2]) (by kernel_rfl) (by simp) ?_
        refine AllReady.cons rfl (fun K hK => ?_) AllReady.nil
        go_simp
        go_at_call 186
        refine (EN.out _).mono ?_
        rintro e w2 ⟨rfl, hb2⟩
        have cj4 : w2.cell? ⟨wz.heap.size, j, none⟩ = some (.int .i64 v) := CJ.out _ _ (((Blk.new wz 2 #[.int .i64 (-46), .int .i64 (-7), .int .i64 0, .int .i64 39, .int .i64 49, .int .i64 56]).drew.below hb1 (Blk.new wz 2 #[.int .i64 (-46), .int .i64 (-7), .int .i64 0, .int .i64 39, .int .i64 49, .int .i64 56]).drew.lt).below hb2 ((Blk.new wz 2 #[.int .i64 (-46), .int .i64 (-7), .int .i64 0, .int .i64 39, .int .i64 49, .int .i64 56]).drew.below hb1 (Blk.new wz 2 #[.int .i64 (-46), .int .i64 (-7), .int .i64 0, .int .i64 39, .int .i64 49, .int .i64 56]).drew.lt).lt)
        refine hK _ _ ?_
        clear hK K
        refine wpAny_take (i := 8) (v := .int .i64 (E + v)) rfl (by kernel_rfl) (by kernel_rfl) (by kernel_rfl) (fun _ _ _ h => h) (Or.inl ⟨by kernel_rfl, fun W => by first | rfl | go_simp⟩) ?_
        simp only [Act.put, List.getElem_toArray, List.getElem_cons_succ, List.getElem_cons_zero, List.setIfInBounds_toArray, List.set_cons_succ, List.set_cons_zero]
        refine wpAny_take (i := 9) (v := .int .i64 (E + v)) rfl (by kernel_rfl) (by kernel_rfl) (by kernel_rfl) (fun _ _ _ h => h) (Or.inl ⟨by kernel_rfl, fun W => by first | rfl | go_simp⟩) ?_
        simp only [Act.put, List.getElem_toArray, List.getElem_cons_succ, List.getElem_cons_zero, List.setIfInBounds_toArray, List.set_cons_succ, List.set_cons_zero]
        refine wpAny_done (by kernel_rfl) ?_ _
        try simp only [List.getElem_toArray, List.getElem_cons_succ, List.getElem_cons_zero, List.setIfInBounds_toArray, List.set_cons_succ, List.set_cons_zero]
        go_wp2_with fail
        go_ret
        exact ⟨rfl, (below_step (below_step (below_more LL LL.size _).drew hb1) hb2)⟩
set_option maxRecDepth 100000 in
theorem i_fixed (w : World) : Calls Tryz.prog 261 #[] w fun e w' => e = .returned (.slice (some ⟨w.heap.size, 0, none⟩) 14 14) ∧ w' = w.alloc (.cells #[.int .i64 0, .int .i64 1, .int .i64 1, .int .i64 0, .int .i64 1, .int .i64 6, .int .i64 0, .int .i64 2, .int .i64 2, .int .i64 0, .int .i64 3, .int .i64 25, .int .i64 0, .int .i64 6, .int .i64 24, .int .i64 0, .int .i64 6, .int .i64 29, .int .i64 0, .int .i64 8, .int .i64 10, .int .i64 0, .int .i64 8, .int .i64 15, .int .i64 0, .int .i64 9, .int .i64 29, .int .i64 0, .int .i64 11, .int .i64 1, .int .i64 0, .int .i64 11, .int .i64 11, .int .i64 0, .int .i64 11, .int .i64 30, .int .i64 0, .int .i64 12, .int .i64 6, .int .i64 0, .int .i64 12, .int .i64 25] 144) := by
  go_enter Tryz.func261, Tryz.ntmps261
  go_wp2_with fail
  go_ret
  exact ⟨rfl, rfl⟩
theorem fixed_cells (w : World) : ∀ k, k < 14 → (w.alloc (.cells #[.int .i64 0, .int .i64 1, .int .i64 1, .int .i64 0, .int .i64 1, .int .i64 6, .int .i64 0, .int .i64 2, .int .i64 2, .int .i64 0, .int .i64 3, .int .i64 25, .int .i64 0, .int .i64 6, .int .i64 24, .int .i64 0, .int .i64 6, .int .i64 29, .int .i64 0, .int .i64 8, .int .i64 10, .int .i64 0, .int .i64 8, .int .i64 15, .int .i64 0, .int .i64 9, .int .i64 29, .int .i64 0, .int .i64 11, .int .i64 1, .int .i64 0, .int .i64 11, .int .i64 11, .int .i64 0, .int .i64 11, .int .i64 30, .int .i64 0, .int .i64 12, .int .i64 6, .int .i64 0, .int .i64 12, .int .i64 25] 144)).cell? ⟨w.heap.size, k * 3, none⟩ = some (.int .i64 0) ∧ (w.alloc (.cells #[.int .i64 0, .int .i64 1, .int .i64 1, .int .i64 0, .int .i64 1, .int .i64 6, .int .i64 0, .int .i64 2, .int .i64 2, .int .i64 0, .int .i64 3, .int .i64 25, .int .i64 0, .int .i64 6, .int .i64 24, .int .i64 0, .int .i64 6, .int .i64 29, .int .i64 0, .int .i64 8, .int .i64 10, .int .i64 0, .int .i64 8, .int .i64 15, .int .i64 0, .int .i64 9, .int .i64 29, .int .i64 0, .int .i64 11, .int .i64 1, .int .i64 0, .int .i64 11, .int .i64 11, .int .i64 0, .int .i64 11, .int .i64 30, .int .i64 0, .int .i64 12, .int .i64 6, .int .i64 0, .int .i64 12, .int .i64 25] 144)).cell? ⟨w.heap.size, k * 3 + 1, none⟩ = some (.int .i64 (fxM.getD k 0)) ∧ (w.alloc (.cells #[.int .i64 0, .int .i64 1, .int .i64 1, .int .i64 0, .int .i64 1, .int .i64 6, .int .i64 0, .int .i64 2, .int .i64 2, .int .i64 0, .int .i64 3, .int .i64 25, .int .i64 0, .int .i64 6, .int .i64 24, .int .i64 0, .int .i64 6, .int .i64 29, .int .i64 0, .int .i64 8, .int .i64 10, .int .i64 0, .int .i64 8, .int .i64 15, .int .i64 0, .int .i64 9, .int .i64 29, .int .i64 0, .int .i64 11, .int .i64 1, .int .i64 0, .int .i64 11, .int .i64 11, .int .i64 0, .int .i64 11, .int .i64 30, .int .i64 0, .int .i64 12, .int .i64 6, .int .i64 0, .int .i64 12, .int .i64 25] 144)).cell? ⟨w.heap.size, k * 3 + 2, none⟩ = some (.int .i64 (fxD.getD k 0)) := by
  intro k hk
  have B := Blk.new w 144 #[.int .i64 0, .int .i64 1, .int .i64 1, .int .i64 0, .int .i64 1, .int .i64 6, .int .i64 0, .int .i64 2, .int .i64 2, .int .i64 0, .int .i64 3, .int .i64 25, .int .i64 0, .int .i64 6, .int .i64 24, .int .i64 0, .int .i64 6, .int .i64 29, .int .i64 0, .int .i64 8, .int .i64 10, .int .i64 0, .int .i64 8, .int .i64 15, .int .i64 0, .int .i64 9, .int .i64 29, .int .i64 0, .int .i64 11, .int .i64 1, .int .i64 0, .int .i64 11, .int .i64 11, .int .i64 0, .int .i64 11, .int .i64 30, .int .i64 0, .int .i64 12, .int .i64 6, .int .i64 0, .int .i64 12, .int .i64 25]
  rw [B.cell, B.cell, B.cell]
  match k, hk with
  | 0, _ => exact ⟨rfl, rfl, rfl⟩
  | 1, _ => exact ⟨rfl, rfl, rfl⟩
  | 2, _ => exact ⟨rfl, rfl, rfl⟩
  | 3, _ => exact ⟨rfl, rfl, rfl⟩
  | 4, _ => exact ⟨rfl, rfl, rfl⟩
  | 5, _ => exact ⟨rfl, rfl, rfl⟩
  | 6, _ => exact ⟨rfl, rfl, rfl⟩
  | 7, _ => exact ⟨rfl, rfl, rfl⟩
  | 8, _ => exact ⟨rfl, rfl, rfl⟩
  | 9, _ => exact ⟨rfl, rfl, rfl⟩
  | 10, _ => exact ⟨rfl, rfl, rfl⟩
  | 11, _ => exact ⟨rfl, rfl, rfl⟩
  | 12, _ => exact ⟨rfl, rfl, rfl⟩
  | 13, _ => exact ⟨rfl, rfl, rfl⟩
theorem i_movable (w : World) : Calls Tryz.prog 263 #[] w fun e w' => e = .returned (.slice (some ⟨w.heap.size, 0, none⟩) 6 6) ∧ w' = w.alloc (.cells #[.int .i64 (-46), .int .i64 (-7), .int .i64 0, .int .i64 39, .int .i64 49, .int .i64 56] 2) := by
  go_enter Tryz.func263, Tryz.ntmps263
  go_wp2_with fail
  go_ret
  exact ⟨rfl, rfl⟩
set_option maxRecDepth 100000 in
set_option maxHeartbeats 1000000 in
theorem i_fday (k : Nat) (y : Int) (w : World) (hk : k < 20) (h0 : 1 ≤ y) (h1 : y ≤ 2000) : Calls Tryz.prog 215 #[.int .i64 k, .int .i64 y] w fun e w' => e = .returned (.int .i64 (fdF k y)) ∧ Below w.heap.size w w' := by
  by_cases h14 : k < 14
  · rw [fd_0 h14]
    obtain ⟨b1, b2, b3, b4⟩ := fx_bd k h14
    have hkk : (k : Int) < 14 := by omega
    obtain ⟨c0, c1, c2⟩ := fixed_cells w k h14
    have LL := below_alloc w (.cells #[.int .i64 0, .int .i64 1, .int .i64 1, .int .i64 0, .int .i64 1, .int .i64 6, .int .i64 0, .int .i64 2, .int .i64 2, .int .i64 0, .int .i64 3, .int .i64 25, .int .i64 0, .int .i64 6, .int .i64 24, .int .i64 0, .int .i64 6, .int .i64 29, .int .i64 0, .int .i64 8, .int .i64 10, .int .i64 0, .int .i64 8, .int .i64 15, .int .i64 0, .int .i64 9, .int .i64 29, .int .i64 0, .int .i64 11, .int .i64 1, .int .i64 0, .int .i64 11, .int .i64 11, .int .i64 0, .int .i64 11, .int .i64 30, .int .i64 0, .int .i64 12, .int .i64 6, .int .i64 0, .int .i64 12, .int .i64 25] 144)
    have hz : (w.alloc (.cells #[.int .i64 0, .int .i64 1, .int .i64 1, .int .i64 0, .int .i64 1, .int .i64 6, .int .i64 0, .int .i64 2, .int .i64 2, .int .i64 0, .int .i64 3, .int .i64 25, .int .i64 0, .int .i64 6, .int .i64 24, .int .i64 0, .int .i64 6, .int .i64 29, .int .i64 0, .int .i64 8, .int .i64 10, .int .i64 0, .int .i64 8, .int .i64 15, .int .i64 0, .int .i64 9, .int .i64 29, .int .i64 0, .int .i64 11, .int .i64 1, .int .i64 0, .int .i64 11, .int .i64 11, .int .i64 0, .int .i64 11, .int .i64 30, .int .i64 0, .int .i64 12, .int .i64 6, .int .i64 0, .int .i64 12, .int .i64 25] 144)).heap.size = w.heap.size + 1 := by simp
    obtain ⟨m, hm⟩ : ∃ m, fxM.getD k 0 = m := ⟨_, rfl⟩
    obtain ⟨d, hd⟩ : ∃ d, fxD.getD k 0 = d := ⟨_, rfl⟩
    rw [hm] at b1 b2 c1 ⊢
    rw [hd] at b3 b4 c2 ⊢
    clear hm hd
    go_enter Tryz.func215, Tryz.ntmps215
    go_wp2_with fail
    refine (i_fixed _).mono ?_
    rintro e w1 ⟨rfl, rfl⟩
    generalize w.alloc (.cells #[.int .i64 0, .int .i64 1, .int .i64 1, .int .i64 0, .int .i64 1, .int .i64 6, .int .i64 0, .int .i64 2, .int .i64 2, .int .i64 0, .int .i64 3, .int .i64 25, .int .i64 0, .int .i64 6, .int .i64 24, .int .i64 0, .int .i64 6, .int .i64 29, .int .i64 0, .int .i64 8, .int .i64 10, .int .i64 0, .int .i64 8, .int .i64 15, .int .i64 0, .int .i64 9, .int .i64 29, .int .i64 0, .int .i64 11, .int .i64 1, .int .i64 0, .int .i64 11, .int .i64 11, .int .i64 0, .int .i64 11, .int .i64 30, .int .i64 0, .int .i64 12, .int .i64 6, .int .i64 0, .int .i64 12, .int .i64 25] 144) = w1 at *
    go_wp2_with fail
    refine (i_num y m d _ h0 (by omega) b1 b2 (by omega) (by omega)).mono ?_
    rintro e w2 ⟨rfl, hb⟩
    go_wp2_with fail
    go_ret
    exact ⟨rfl, below_step (below_more LL LL.size _) hb⟩
  · rw [fd_1 h14]
    obtain ⟨j, rfl⟩ : ∃ j, k = 14 + j := ⟨k - 14, by omega⟩
    have hj : j < 6 := by omega
    rw [show 14 + j - 14 = j by omega]
    obtain ⟨b1, b2⟩ := mv_bd j hj
    have he := easter_bd y
    have hn := nyear_bd y h0 (by omega)
    have hn2 : nyear y ≤ 730500 := by unfold nyear; omega
    have hwj : IntKind.i64.wrap (((14 + j : Nat) : Int) - 14) = (j : Int) := by rw [IntWalk.i64_in _ (by omega)]; omega
    have hjj : ((14 + j : Nat) : Int) - 14 = (j : Int) := by omega
    have hkk : (14 : Int) ≤ ((14 + j : Nat) : Int) := by omega
    have LL := below_alloc w (.cells #[.int .i64 0, .int .i64 1, .int .i64 1, .int .i64 0, .int .i64 1, .int .i64 6, .int .i64 0, .int .i64 2, .int .i64 2, .int .i64 0, .int .i64 3, .int .i64 25, .int .i64 0, .int .i64 6, .int .i64 24, .int .i64 0, .int .i64 6, .int .i64 29, .int .i64 0, .int .i64 8, .int .i64 10, .int .i64 0, .int .i64 8, .int .i64 15, .int .i64 0, .int .i64 9, .int .i64 29, .int .i64 0, .int .i64 11, .int .i64 1, .int .i64 0, .int .i64 11, .int .i64 11, .int .i64 0, .int .i64 11, .int .i64 30, .int .i64 0, .int .i64 12, .int .i64 6, .int .i64 0, .int .i64 12, .int .i64 25] 144)
    have CJ := Lib.hid (fun (W : World) (g : Nat) (h : Blk W g 2 #[.int .i64 (-46), .int .i64 (-7), .int .i64 0, .int .i64 39, .int .i64 49, .int .i64 56]) => mv_cell h j hj)
    obtain ⟨v, hv⟩ : ∃ v, mvB.getD j 0 = v := ⟨_, rfl⟩
    rw [hv] at b1 b2 CJ ⊢
    have EN := Lib.hid (fun W => i_easter y W h0 (by omega))
    obtain ⟨E, hEE⟩ : ∃ e, easter y = e := ⟨_, rfl⟩
    rw [hEE] at EN he ⊢
    have hw1 : IntKind.i64.wrap (E + v) = E + v := IntWalk.i64_in _ (by omega)
    obtain ⟨kk, hkk2⟩ : ∃ kk : Int, ((14 + j : Nat) : Int) = kk := ⟨_, rfl⟩
    rw [hkk2] at hwj hkk hjj ⊢
    have hj6 : (j : Int) < 6 := by omega
    clear hv hEE h14 hkk2 hn hn2
    go_enter Tryz.func215, Tryz.ntmps215
    go_wp2_with fail
    refine (i_fixed _).mono ?_
    rintro e w1 ⟨rfl, rfl⟩
    generalize w.alloc (.cells #[.int .i64 0, .int .i64 1, .int .i64 1, .int .i64 0, .int .i64 1, .int .i64 6, .int .i64 0, .int .i64 2, .int .i64 2, .int .i64 0, .int .i64 3, .int .i64 25, .int .i64 0, .int .i64 6, .int .i64 24, .int .i64 0, .int .i64 6, .int .i64 29, .int .i64 0, .int .i64 8, .int .i64 10, .int .i64 0, .int .i64 8, .int .i64 15, .int .i64 0, .int .i64 9, .int .i64 29, .int .i64 0, .int .i64 11, .int .i64 1, .int .i64 0, .int .i64 11, .int .i64 11, .int .i64 0, .int .i64 11, .int .i64 30, .int .i64 0, .int .i64 12, .int .i64 6, .int .i64 0, .int .i64 12, .int .i64 25] 144) = w1 at *
    go_wp2_with fail
    refine (EN.out _).mono ?_
    rintro e w2 ⟨rfl, hb⟩
    replace LL := below_step LL hb
    clear hb
    go_wp2_with fail
    refine (i_movable _).mono ?_
    rintro e w3 ⟨rfl, rfl⟩
    have cj := CJ.out _ _ (Blk.new w2 2 #[.int .i64 (-46), .int .i64 (-7), .int .i64 0, .int .i64 39, .int .i64 49, .int .i64 56])
    have L3 := below_more LL LL.size (.cells #[.int .i64 (-46), .int .i64 (-7), .int .i64 0, .int .i64 39, .int .i64 49, .int .i64 56] 2)
    have hz3 : w2.heap.size < (w2.alloc (.cells #[.int .i64 (-46), .int .i64 (-7), .int .i64 0, .int .i64 39, .int .i64 49, .int .i64 56] 2)).heap.size := by simp
    generalize w2.alloc (.cells #[.int .i64 (-46), .int .i64 (-7), .int .i64 0, .int .i64 39, .int .i64 49, .int .i64 56] 2) = w3 at *
    go_wp2_with fail
    go_ret
    exact ⟨rfl, L3⟩
theorem re_1 (k : Nat) (d y : Int) : reF k 1 d y = fdF k y - 1 := by unfold reF; rfl
theorem re_2 (k : Nat) (d y : Int) : reF k 2 d y = fdF k y + 7 := by unfold reF; rfl
theorem re_3 (k : Nat) (d y : Int) : reF k 3 d y = fdF k y + 1 + (d - (fdF k y + 5) % 7 + 13) % 7 := by unfold reF; rfl
theorem re_4 (k : Nat) (d y : Int) : reF k 4 d y = fdF k y - 1 - ((fdF k y + 5) % 7 - d + 13) % 7 := by unfold reF; rfl
theorem re_0 (k : Nat) (r d y : Int) (h1 : ¬ r = 1) (h2 : ¬ r = 2) (h3 : ¬ r = 3) (h4 : ¬ r = 4) : reF k r d y = fdF k y := by unfold reF; rw [if_neg h1, if_neg h2, if_neg h3, if_neg h4]
set_option maxRecDepth 100000 in
set_option maxHeartbeats 1000000 in
theorem s_reld (k : Nat) (r d y : Int) (w : World) (hk : k < 20) (d0 : 0 ≤ d) (d1 : d ≤ 6) (h0 : 1 ≤ y) (h1 : y ≤ 2000) : Calls Tryz.prog 154 #[.int .i64 k, .int .i64 r, .int .i64 d, .int .i64 y] w fun e w' => e = .returned (.int .i64 (reF k r d y)) ∧ Below w.heap.size w w' := by
  have con := fun W => s_fday k y W hk h0 h1
  obtain ⟨f0, f1⟩ := fd_bd hk h0 h1
  have r1 := re_1 k d y
  have r2 := re_2 k d y
  have r3 := re_3 k d y
  have r4 := re_4 k d y
  have r0 := re_0 k r d y
  obtain ⟨F, hF⟩ : ∃ F, fdF k y = F := ⟨_, rfl⟩
  rw [hF] at con f0 f1 r1 r2 r3 r4 r0
  have CON := Lib.hid con
  have R0 := Lib.hid r0
  have R1 := Lib.hid r1
  have R2 := Lib.hid r2
  have R3 := Lib.hid r3
  have R4 := Lib.hid r4
  clear con hF r0 r1 r2 r3 r4
  by_cases e1 : r = 1
  · subst e1
    go_enter Tryz.func154, Tryz.ntmps154
    go_wp2_with fail
    refine (CON.out _).mono ?_
    rintro e w1 ⟨rfl, hb⟩
    go_wp2_with fail
    go_ret
    exact ⟨by rw [R1.out]; rfl, hb⟩
  · by_cases e2 : r = 2
    · subst e2
      go_enter Tryz.func154, Tryz.ntmps154
      go_wp2_with fail
      refine (CON.out _).mono ?_
      rintro e w1 ⟨rfl, hb⟩
      go_wp2_with fail
      go_ret
      exact ⟨by rw [R2.out]; rfl, hb⟩
    · by_cases e3 : r = 3
      · subst e3
        have wd := fun V => s_wday (F + 1) V (by omega) (by omega)
        obtain ⟨W, hW⟩ : ∃ W, (F + 1 + 5) % 7 = W := ⟨_, rfl⟩
        have hW0 : 0 ≤ W := by omega
        have hW1 : W ≤ 6 := by omega
        rw [hW] at wd
        have WD := Lib.hid wd
        have hv : F + 1 + (d + 14 - W) % 7 = F + 1 + (d - (F + 5) % 7 + 13) % 7 := by omega
        have m0 : 0 ≤ d + 14 - W := by omega
        have m1 : 0 ≤ (d + 14 - W) % 7 := by omega
        have m2 : (d + 14 - W) % 7 < 7 := by omega
        have HV := Lib.hid hv
        clear wd hW hv
        go_enter Tryz.func154, Tryz.ntmps154
        go_wp2_with fail
        refine (CON.out _).mono ?_
        rintro e w1 ⟨rfl, hb⟩
        go_wp2_with fail
        refine (WD.out _).mono ?_
        rintro e w2 ⟨rfl, rfl⟩
        go_wp2_with fail
        go_ret
        exact ⟨by rw [R3.out, ← HV.out]; rfl, hb⟩
      · by_cases e4 : r = 4
        · subst e4
          have wd := fun V => s_wday (F + 6) V (by omega) (by omega)
          obtain ⟨W, hW⟩ : ∃ W, (F + 6 + 5) % 7 = W := ⟨_, rfl⟩
          have hW0 : 0 ≤ W := by omega
          have hW1 : W ≤ 6 := by omega
          rw [hW] at wd
          have WD := Lib.hid wd
          have hv : F - 1 - (W + 7 - d) % 7 = F - 1 - ((F + 5) % 7 - d + 13) % 7 := by omega
          have m0 : 0 ≤ W + 7 - d := by omega
          have m1 : 0 ≤ (W + 7 - d) % 7 := by omega
          have m2 : (W + 7 - d) % 7 < 7 := by omega
          have HV := Lib.hid hv
          clear wd hW hv
          go_enter Tryz.func154, Tryz.ntmps154
          go_wp2_with fail
          refine (CON.out _).mono ?_
          rintro e w1 ⟨rfl, hb⟩
          go_wp2_with fail
          refine (WD.out _).mono ?_
          rintro e w2 ⟨rfl, rfl⟩
          go_wp2_with fail
          go_ret
          exact ⟨by rw [R4.out, ← HV.out]; rfl, hb⟩
        · have b1 : (r == 1) = false := by simpa using e1
          have b2 : (r == 2) = false := by simpa using e2
          have b3 : (r == 3) = false := by simpa using e3
          have b4 : (r == 4) = false := by simpa using e4
          have RZ := Lib.hid (R0.out e1 e2 e3 e4)
          go_enter Tryz.func154, Tryz.ntmps154
          go_wp2_with fail
          refine (CON.out _).mono ?_
          rintro e w1 ⟨rfl, hb⟩
          go_wp2_with fail
          go_ret
          exact ⟨by rw [RZ.out]; rfl, hb⟩
set_option maxRecDepth 100000 in
set_option maxHeartbeats 1000000 in
theorem i_reld (k : Nat) (r d y : Int) (w : World) (hk : k < 20) (d0 : 0 ≤ d) (d1 : d ≤ 6) (h0 : 1 ≤ y) (h1 : y ≤ 2000) : Calls Tryz.prog 164 #[.int .i64 k, .int .i64 r, .int .i64 d, .int .i64 y] w fun e w' => e = .returned (.int .i64 (reF k r d y)) ∧ Below w.heap.size w w' := by
  have con := fun W => i_fday k y W hk h0 h1
  obtain ⟨f0, f1⟩ := fd_bd hk h0 h1
  have r1 := re_1 k d y
  have r2 := re_2 k d y
  have r3 := re_3 k d y
  have r4 := re_4 k d y
  have r0 := re_0 k r d y
  obtain ⟨F, hF⟩ : ∃ F, fdF k y = F := ⟨_, rfl⟩
  rw [hF] at con f0 f1 r1 r2 r3 r4 r0
  have CON := Lib.hid con
  have R0 := Lib.hid r0
  have R1 := Lib.hid r1
  have R2 := Lib.hid r2
  have R3 := Lib.hid r3
  have R4 := Lib.hid r4
  clear con hF r0 r1 r2 r3 r4
  by_cases e1 : r = 1
  · subst e1
    go_enter Tryz.func164, Tryz.ntmps164
    go_wp2_with fail
    refine (CON.out _).mono ?_
    rintro e w1 ⟨rfl, hb⟩
    go_wp2_with fail
    go_ret
    exact ⟨by rw [R1.out]; rfl, hb⟩
  · by_cases e2 : r = 2
    · subst e2
      go_enter Tryz.func164, Tryz.ntmps164
      go_wp2_with fail
      refine (CON.out _).mono ?_
      rintro e w1 ⟨rfl, hb⟩
      go_wp2_with fail
      go_ret
      exact ⟨by rw [R2.out]; rfl, hb⟩
    · by_cases e3 : r = 3
      · subst e3
        have wd := fun V => i_wday (F) V (by omega) (by omega)
        obtain ⟨W, hW⟩ : ∃ W, (F + 5) % 7 = W := ⟨_, rfl⟩
        have hW0 : 0 ≤ W := by omega
        have hW1 : W ≤ 6 := by omega
        rw [hW] at wd
        have WD := Lib.hid wd
        have hv : F + 1 + (d - W + 13) % 7 = F + 1 + (d - (F + 5) % 7 + 13) % 7 := by omega
        have m0 : 0 ≤ d - W + 13 := by omega
        have m1 : 0 ≤ (d - W + 13) % 7 := by omega
        have m2 : (d - W + 13) % 7 < 7 := by omega
        have HV := Lib.hid hv
        clear wd hW hv
        go_enter Tryz.func164, Tryz.ntmps164
        go_wp2_with fail
        refine (CON.out _).mono ?_
        rintro e w1 ⟨rfl, hb⟩
        go_wp2_with fail
        refine (WD.out _).mono ?_
        rintro e w2 ⟨rfl, rfl⟩
        go_wp2_with fail
        go_ret
        exact ⟨by rw [R3.out, ← HV.out]; rfl, hb⟩
      · by_cases e4 : r = 4
        · subst e4
          have wd := fun V => i_wday (F) V (by omega) (by omega)
          obtain ⟨W, hW⟩ : ∃ W, (F + 5) % 7 = W := ⟨_, rfl⟩
          have hW0 : 0 ≤ W := by omega
          have hW1 : W ≤ 6 := by omega
          rw [hW] at wd
          have WD := Lib.hid wd
          have hv : F - 1 - (W - d + 13) % 7 = F - 1 - ((F + 5) % 7 - d + 13) % 7 := by omega
          have m0 : 0 ≤ W - d + 13 := by omega
          have m1 : 0 ≤ (W - d + 13) % 7 := by omega
          have m2 : (W - d + 13) % 7 < 7 := by omega
          have HV := Lib.hid hv
          clear wd hW hv
          go_enter Tryz.func164, Tryz.ntmps164
          go_wp2_with fail
          refine (CON.out _).mono ?_
          rintro e w1 ⟨rfl, hb⟩
          go_wp2_with fail
          refine (WD.out _).mono ?_
          rintro e w2 ⟨rfl, rfl⟩
          go_wp2_with fail
          go_ret
          exact ⟨by rw [R4.out, ← HV.out]; rfl, hb⟩
        · have b1 : (r == 1) = false := by simpa using e1
          have b2 : (r == 2) = false := by simpa using e2
          have b3 : (r == 3) = false := by simpa using e3
          have b4 : (r == 4) = false := by simpa using e4
          have RZ := Lib.hid (R0.out e1 e2 e3 e4)
          go_enter Tryz.func164, Tryz.ntmps164
          go_wp2_with fail
          refine (CON.out _).mono ?_
          rintro e w1 ⟨rfl, hb⟩
          go_wp2_with fail
          go_ret
          exact ⟨by rw [RZ.out]; rfl, hb⟩
end Go.Proofs.YtmpgokijlikddaaGreatDoor
