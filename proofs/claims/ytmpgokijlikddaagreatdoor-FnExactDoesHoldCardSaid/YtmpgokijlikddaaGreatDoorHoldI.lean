/- The program's holds: on which days a clause holds, as the plain law says; a theorem for each kind of clause. Conditions: a day; what the clause's kind asks; how the reigns lie. -/
import Derived.Test.YtmpgokijlikddaaGreatDoorHoldP
import Derived.Deep.RegionHeld3
import Derived.Deep.RegionWith
import Derived.BigQuiet
namespace Go.Proofs.YtmpgokijlikddaaGreatDoor
set_option linter.unusedSimpArgs false
open Go.RowKit
set_option maxRecDepth 100000 in
set_option maxHeartbeats 4000000 in
theorem i_ho0 (A : Option Addr) (nr C : Nat) (v m : Int) (f : Int) (r d s : Int) (k : ByteArray) (n : Int) (w : World) (h0 : 0 ≤ n) (h1 : n ≤ 730499) :
    Calls Tryz.prog 98 #[.slice A nr C, .agg #[.int .i64 0, .int .i64 v, .int .i64 m, .int .i64 f, .int .i64 r, .int .i64 d, .int .i64 s, .string k], .int .i64 n] w fun e w' => (∃ b, e = .returned (.bool b) ∧ (b = true ↔ mo n = m ∧ dy n = v)) ∧ Below w.heap.size w w' := by
  have BC0 := (Blk.new w 55 #[.int .i64 0, .int .i64 v, .int .i64 m, .int .i64 f, .int .i64 r, .int .i64 d, .int .i64 s, .string k]).alloc (.cells #[.int .i64 n] 2)
  have BN0 := Blk.new' (w.alloc (.cells #[.int .i64 0, .int .i64 v, .int .i64 m, .int .i64 f, .int .i64 r, .int .i64 d, .int .i64 s, .string k] 55)) 2 #[.int .i64 n] (w.heap.size + 1) (by simp)
  have L0 := below_more (below_alloc w (.cells #[.int .i64 0, .int .i64 v, .int .i64 m, .int .i64 f, .int .i64 r, .int .i64 d, .int .i64 s, .string k] 55)) (by simp) (.cells #[.int .i64 n] 2)
  have con := fun W => i_dateOf n W h0 h1
  obtain ⟨Y, hY⟩ : ∃ Y, yr n = Y := ⟨_, rfl⟩
  obtain ⟨M, hM⟩ : ∃ M, mo n = M := ⟨_, rfl⟩
  obtain ⟨D, hD⟩ : ∃ D, dy n = D := ⟨_, rfl⟩
  rw [hY, hM, hD] at con
  have CON := Lib.hid con
  clear con
  have fd := fieldD0
  rw [hM, hD]
  go_enter Tryz.func98, Tryz.ntmps98
  go_wp2_with fail
  refine (CON.out _).mono ?_
  rintro e w1 ⟨rfl, hb1⟩
  have BC := BC0.below hb1 (by simp <;> omega)
  have BN := BN0.below hb1 (by simp <;> omega)
  have L1 := below_step L0 hb1
  have hz1 := BC.lt
  have hz2 := BN.lt
  clear hb1 CON BC0 BN0 L0
  have c1 : w1.cell? ⟨w.heap.size, 1, none⟩ = some (.int .i64 v) := BC.cell 1
  have c2 : w1.cell? ⟨w.heap.size, 2, none⟩ = some (.int .i64 m) := BC.cell 2
  have L2 := below_more L1 (Nat.le_of_lt hz1) (.cells #[.int .i64 Y, .int .i64 M, .int .i64 D] 144)
  clear hY hM hD
  by_cases e1 : M = m
  · subst e1
    by_cases e2 : D = v
    · subst e2
      go_wp2_with fail
      go_ret
      exact ⟨by first | exact ⟨true, rfl, by simp⟩ | simp, L2⟩
    · have b2 : (D == v) = false := by simpa using e2
      go_wp2_with fail
      go_ret
      exact ⟨by first | exact ⟨false, rfl, by simp [e2]⟩ | simp [e2], L2⟩
  · have b1 : (M == m) = false := by simpa using e1
    go_wp2_with fail
    go_ret
    exact ⟨⟨false, rfl, by simp [e1]⟩, L2⟩
set_option maxRecDepth 100000 in
set_option maxHeartbeats 4000000 in
theorem i_ho1 (A : Option Addr) (nr C : Nat) (v m : Int) (kf : Nat) (r d s : Int) (k : ByteArray) (n : Int) (w : World) (h0 : 0 ≤ n) (h1 : n ≤ 730499) (hk : kf < 20) (d0 : 0 ≤ d) (d1 : d ≤ 6) :
    Calls Tryz.prog 98 #[.slice A nr C, .agg #[.int .i64 1, .int .i64 v, .int .i64 m, .int .i64 (kf : Int), .int .i64 r, .int .i64 d, .int .i64 s, .string k], .int .i64 n] w fun e w' => (∃ b, e = .returned (.bool b) ∧ (b = true ↔ feP kf r d n)) ∧ Below w.heap.size w w' := by
  obtain ⟨y0, y1⟩ := yr_bd n h0 h1
  unfold feP
  have BC0 := (Blk.new w 55 #[.int .i64 1, .int .i64 v, .int .i64 m, .int .i64 (kf : Int), .int .i64 r, .int .i64 d, .int .i64 s, .string k]).alloc (.cells #[.int .i64 n] 2)
  have BN0 := Blk.new' (w.alloc (.cells #[.int .i64 1, .int .i64 v, .int .i64 m, .int .i64 (kf : Int), .int .i64 r, .int .i64 d, .int .i64 s, .string k] 55)) 2 #[.int .i64 n] (w.heap.size + 1) (by simp)
  have L0 := below_more (below_alloc w (.cells #[.int .i64 1, .int .i64 v, .int .i64 m, .int .i64 (kf : Int), .int .i64 r, .int .i64 d, .int .i64 s, .string k] 55)) (by simp) (.cells #[.int .i64 n] 2)
  have con := fun W => i_dateOf n W h0 h1
  obtain ⟨Y, hY⟩ : ∃ Y, yr n = Y := ⟨_, rfl⟩
  obtain ⟨M, hM⟩ : ∃ M, mo n = M := ⟨_, rfl⟩
  obtain ⟨D, hD⟩ : ∃ D, dy n = D := ⟨_, rfl⟩
  rw [hY, hM, hD] at con
  have CON := Lib.hid con
  clear con
  have fd := fieldD0
  rw [hY]
  rw [hY] at y0 y1
  obtain ⟨lo, hlo⟩ : ∃ lo, max 1 (Y - 1) = lo := ⟨_, rfl⟩
  obtain ⟨hi, hhi⟩ : ∃ hi, min 2000 (Y + 1) = hi := ⟨_, rfl⟩
  have b0 : 1 ≤ lo := by omega
  have b1 : hi ≤ 2000 := by omega
  have b2 : lo ≤ hi := by omega
  have b3 : hi ≤ Y + 1 := by omega
  rw [hlo, hhi]
  go_enter Tryz.func98, Tryz.ntmps98
  go_wp2_with fail
  refine (CON.out _).mono ?_
  rintro e w1 ⟨rfl, hb1⟩
  have BC := BC0.below hb1 (by simp <;> omega)
  have BN := BN0.below hb1 (by simp <;> omega)
  have L1 := below_step L0 hb1
  have hz1 := BC.lt
  have hz2 := BN.lt
  clear hb1 CON BC0 BN0 L0
  have c3 : w1.cell? ⟨w.heap.size, 3, none⟩ = some (.int .i64 (kf : Int)) := BC.cell 3
  have c4 : w1.cell? ⟨w.heap.size, 4, none⟩ = some (.int .i64 r) := BC.cell 4
  have c5 : w1.cell? ⟨w.heap.size, 5, none⟩ = some (.int .i64 d) := BC.cell 5
  clear hY hM hD
  go_wp2_with fail
  go_loopw [9] (fun q wr => ∃ y : Int, lo ≤ y ∧ y ≤ hi + 1 ∧ q = .int .i64 y ∧ Hid (∀ z, lo ≤ z → z < y → ¬ reF kf r d z = n) ∧ Blk wr w.heap.size 55 #[.int .i64 1, .int .i64 v, .int .i64 m, .int .i64 (kf : Int), .int .i64 r, .int .i64 d, .int .i64 s, .string k] ∧ Blk wr (w.heap.size + 1) 2 #[.int .i64 n] ∧ Below w.heap.size w wr) (fun q _ => (hi + 1 - intOf q).toNat)
  case atStart => exact ⟨lo, by omega, by omega, by first | rfl | rw [hlo], Lib.hid (fun z h1 h2 => absurd h2 (by omega)), BC, BN, L1⟩
  case round =>
    clear BC BN L1 c3 c4 c5 hz1 hz2
    obtain ⟨y, ya, yb, rfl, HN, BC, BN, L⟩ := hrel
    have c3 : wr.cell? ⟨w.heap.size, 3, none⟩ = some (.int .i64 (kf : Int)) := BC.cell 3
    have c4 : wr.cell? ⟨w.heap.size, 4, none⟩ = some (.int .i64 r) := BC.cell 4
    have c5 : wr.cell? ⟨w.heap.size, 5, none⟩ = some (.int .i64 d) := BC.cell 5
    have e0 : wr.cell? ⟨w.heap.size + 1, 0, none⟩ = some (.int .i64 n) := BN.cell 0
    have hgc := BC.lt
    have hgn := BN.lt
    have K0 := Lib.hid c3
    have K1 := Lib.hid c4
    have K2 := Lib.hid c5
    have K3 := Lib.hid e0
    by_cases hle : y ≤ hi
    · have con := fun W => i_reld kf r d y W hk d0 d1 (by omega) (by omega)
      have HH := Lib.hid (fun (h : reF kf r d y = n) => (⟨y, ya, hle, h⟩ : ∃ y : Int, lo ≤ y ∧ y ≤ hi ∧ reF kf r d y = n))
      have HS := Lib.hid (fun (h : ¬ reF kf r d y = n) z (h1 : lo ≤ z) (h2 : z < y + 1) => show ¬ reF kf r d z = n by
        by_cases e : z = y
        · subst e; exact h
        · exact HN.out z h1 (by omega))
      obtain ⟨E, hE⟩ : ∃ E, reF kf r d y = E := ⟨_, rfl⟩
      rw [hE] at con HH HS
      have CON := Lib.hid con
      clear con hE HN
      by_cases he : E = n
      · have HT := Lib.hid (HH.out he)
        have he2 := he.symm
        subst he2
        clear HH HS
        go_wp2_with fail
        go_region_held3 (fun W => W.cell? ⟨w.heap.size, 3, none⟩ = some (.int .i64 (kf : Int)) ∧ W.cell? ⟨w.heap.size, 4, none⟩ = some (.int .i64 r) ∧ W.cell? ⟨w.heap.size, 5, none⟩ = some (.int .i64 d) ∧ W.cell? ⟨w.heap.size + 1, 0, none⟩ = some (.int .i64 n))
          (first | go_keep | exact ⟨K0.out, K1.out, K2.out, K3.out⟩ | exact ⟨d3, d4, d5, d6⟩)
          (first | (go_at_call 164; refine (CON.out _).mono ?_; rintro e w3 ⟨rfl, hb3⟩; have hb4 := below_undrew hb3; have L2 := L.trans (hb4.mono L.size); have BC2 := BC.below hb4 hgc; have BN2 := BN.below hb4 hgn; have d3 : w3.cell? ⟨w.heap.size, 3, none⟩ = some (.int .i64 (kf : Int)) := BC2.cell 3; have d4 : w3.cell? ⟨w.heap.size, 4, none⟩ = some (.int .i64 r) := BC2.cell 4; have d5 : w3.cell? ⟨w.heap.size, 5, none⟩ = some (.int .i64 d) := BC2.cell 5; have d6 : w3.cell? ⟨w.heap.size + 1, 0, none⟩ = some (.int .i64 n) := BN2.cell 0))
        go_wp2_with fail
        go_ret
        exact ⟨⟨true, rfl, fun _ => HT.out, fun _ => rfl⟩, L2⟩
      · have hf : (E == n) = false := by simpa using he
        have hf2 : decide (E = n) = false := by simpa using he
        have HT := Lib.hid (HS.out he)
        clear HH HS
        go_wp2_with fail
        go_region_held3 (fun W => W.cell? ⟨w.heap.size, 3, none⟩ = some (.int .i64 (kf : Int)) ∧ W.cell? ⟨w.heap.size, 4, none⟩ = some (.int .i64 r) ∧ W.cell? ⟨w.heap.size, 5, none⟩ = some (.int .i64 d) ∧ W.cell? ⟨w.heap.size + 1, 0, none⟩ = some (.int .i64 n))
          (first | go_keep | exact ⟨K0.out, K1.out, K2.out, K3.out⟩ | exact ⟨d3, d4, d5, d6⟩)
          (first | (go_at_call 164; refine (CON.out _).mono ?_; rintro e w3 ⟨rfl, hb3⟩; have hb4 := below_undrew hb3; have L2 := L.trans (hb4.mono L.size); have BC2 := BC.below hb4 hgc; have BN2 := BN.below hb4 hgn; have d3 : w3.cell? ⟨w.heap.size, 3, none⟩ = some (.int .i64 (kf : Int)) := BC2.cell 3; have d4 : w3.cell? ⟨w.heap.size, 4, none⟩ = some (.int .i64 r) := BC2.cell 4; have d5 : w3.cell? ⟨w.heap.size, 5, none⟩ = some (.int .i64 d) := BC2.cell 5; have d6 : w3.cell? ⟨w.heap.size + 1, 0, none⟩ = some (.int .i64 n) := BN2.cell 0))
        go_wp2_with fail
        go_roundw
        case rel => exact ⟨y + 1, by omega, by omega, by go_num, HT, BC2, BN2, L2⟩
        case measure => simp [intOf]; omega
    · have hgt : hi < y := by omega
      have HF := Lib.hid (show ¬ ∃ z : Int, lo ≤ z ∧ z ≤ hi ∧ reF kf r d z = n from fun ⟨z, z1, z2, z3⟩ => HN.out z z1 (by omega) z3)
      clear hle HN
      go_wp2_with fail
      go_ret
      exact ⟨⟨false, rfl, fun h => absurd h (by decide), fun h => absurd h HF.out⟩, L⟩
set_option maxRecDepth 100000 in
set_option maxHeartbeats 4000000 in
theorem i_hold1 (z : List UInt8) (F T : Int) (gc gn : Nat) (x : List UInt8) (v m f r d s n : Int) (w : World) (BC0 : Blk w gc 55 #[.int .i64 2, .int .i64 v, .int .i64 m, .int .i64 f, .int .i64 r, .int .i64 d, .int .i64 s, .string ⟨x.toArray⟩]) (BN0 : Blk w gn 2 #[.int .i64 n]) (ho : 0 ≤ F ∧ F ≤ T ∧ T ≤ 730499) (h1 : n ≤ 730499) :
    Calls Tryz.prog 166 #[.agg #[.string ⟨z.toArray⟩, .int .i64 F, .int .i64 T], .pointer (some ⟨gc, 0, none⟩), .pointer (some ⟨gn, 0, none⟩)] w fun e w' => (∃ b, e = .returned (.bool b) ∧ (b = true ↔ (z = x ∧ inB n F T = true ∧ ky F n = v))) ∧ Below w.heap.size w w' := by
  have L := below_alloc w (.cells #[.string ⟨z.toArray⟩, .int .i64 F, .int .i64 T] 90)
  have BR := Blk.new w 90 #[.string ⟨z.toArray⟩, .int .i64 F, .int .i64 T]
  have BC := BC0.alloc (.cells #[.string ⟨z.toArray⟩, .int .i64 F, .int .i64 T] 90)
  have BN := BN0.alloc (.cells #[.string ⟨z.toArray⟩, .int .i64 F, .int .i64 T] 90)
  have r0 := BR.c0
  have r1 := BR.c1
  have r2 := BR.c2
  have n0 := BN.c0
  have c1 := BC.cell 1
  have c7 := BC.cell 7
  have hgr := BR.lt
  have hgc := BC.lt
  have hgn := BN.lt
  clear BC0 BN0
  obtain ⟨wz, hwz⟩ : ∃ W, w.alloc (.cells #[.string ⟨z.toArray⟩, .int .i64 F, .int .i64 T] 90) = W := ⟨_, rfl⟩
  by_cases hx : z = x
  · subst hx
    obtain ⟨b, hb⟩ : ∃ b, inB n F T = b := ⟨_, rfl⟩
    have CI := Lib.hid (fun W => toBelowB (i_covers ⟨z.toArray⟩ F T n W) hb)
    cases b with
    | false => as_aux_lemma =>
      rw [hb]
      rw [hwz] at r0 r1 r2 n0 c1 c7 hgr hgc hgn BR BC BN L
      go_enter Tryz.func166, Tryz.ntmps166
      go_wp2_with fail
      refine wp_region_any (by kernel_rfl) ?_
      change wpAny _ _ _ _ _ _ _ (World.drew _)
      refine wpAny_take (i := 0) (v := .pointer (some ⟨w.heap.size, 0, none⟩)) rfl (by kernel_rfl) (by kernel_rfl) (by kernel_rfl) (fun _ _ _ h => h) (Or.inl ⟨by kernel_rfl, fun W => by first | rfl | go_simp⟩) ?_
      simp only [Act.put, List.getElem_toArray, List.getElem_cons_succ, List.getElem_cons_zero, List.setIfInBounds_toArray, List.set_cons_succ, List.set_cons_zero]
      refine wpAny_take (i := 2) (v := .pointer (some ⟨gc, 7, none⟩)) rfl (by kernel_rfl) (by kernel_rfl) (by kernel_rfl) (fun _ _ _ h => h) (Or.inl ⟨by kernel_rfl, fun W => by first | rfl | go_simp⟩) ?_
      simp only [Act.put, List.getElem_toArray, List.getElem_cons_succ, List.getElem_cons_zero, List.setIfInBounds_toArray, List.set_cons_succ, List.set_cons_zero]
      refine wpAny_ready (rs := [1, 3]) (by kernel_rfl) (by simp) ?_
      refine AllReady.cons rfl (fun K hK => ?_) (AllReady.cons rfl (fun K hK => ?_) AllReady.nil)
      · go_simp
        refine hK _ _ ?_
        clear hK K
        refine wpAny_ready (rs := [3]) (by kernel_rfl) (by simp) ?_
        refine AllReady.cons rfl (fun K hK => ?_) AllReady.nil
        go_simp
        refine hK _ _ ?_
        clear hK K
        refine wpAny_take (i := 4) (v := .bool true) rfl (by kernel_rfl) (by kernel_rfl) (by kernel_rfl) (fun _ _ _ h => h) (Or.inl ⟨by kernel_rfl, fun W => by first | rfl | go_simp⟩) ?_
        simp only [Act.put, List.getElem_toArray, List.getElem_cons_succ, List.getElem_cons_zero, List.setIfInBounds_toArray, List.set_cons_succ, List.set_cons_zero]
        refine wpAny_take (i := 5) (v := .bool true) rfl (by kernel_rfl) (by kernel_rfl) (by kernel_rfl) (fun _ _ _ h => h) (Or.inl ⟨by kernel_rfl, fun W => by first | rfl | go_simp⟩) ?_
        simp only [Act.put, List.getElem_toArray, List.getElem_cons_succ, List.getElem_cons_zero, List.setIfInBounds_toArray, List.set_cons_succ, List.set_cons_zero]
        refine wpAny_ready (rs := [6, 7]) (by kernel_rfl) (by simp) ?_
        refine AllReady.cons rfl (fun K hK => ?_) (AllReady.cons rfl (fun K hK => ?_) AllReady.nil)
        · go_simp
          refine hK _ _ ?_
          clear hK K
          refine wpAny_ready (rs := [7]) (by kernel_rfl) (by simp) ?_
          refine AllReady.cons rfl (fun K hK => ?_) AllReady.nil
          go_simp
          refine hK _ _ ?_
          clear hK K
          refine wpAny_ready (rs := [8]) (by kernel_rfl) (by simp) ?_
          refine AllReady.cons rfl (fun K hK => ?_) AllReady.nil
          go_simp
          go_at_call 140
          refine (CI.out _).mono ?_
          rintro e w3 ⟨rfl, hb3⟩
          have hb5 := below_undrew hb3
          have BR2 := BR.below hb5 hgr
          have BC2 := BC.below hb5 hgc
          have BN2 := BN.below hb5 hgn
          have L2 := L.trans (hb5.mono L.size)
          have a0 := BR2.c0
          have a1 := BR2.c1
          have a2 := BR2.c2
          have a3 := BN2.c0
          have a4 : w3.cell? ⟨gc, 1, none⟩ = some (.int .i64 v) := BC2.cell 1
          have hgr2 := BR2.lt
          have hgc2 := BC2.lt
          clear hb3 hb5
          refine hK _ _ ?_
          clear hK K
          refine wpAny_take (i := 9) (v := .bool false) rfl (by kernel_rfl) (by kernel_rfl) (by kernel_rfl) (fun _ _ _ h => h) (Or.inl ⟨by kernel_rfl, fun W => by first | rfl | go_simp⟩) ?_
          simp only [Act.put, List.getElem_toArray, List.getElem_cons_succ, List.getElem_cons_zero, List.setIfInBounds_toArray, List.set_cons_succ, List.set_cons_zero]
          refine wpAny_take (i := 10) (v := .bool false) rfl (by kernel_rfl) (by kernel_rfl) (by kernel_rfl) (fun _ _ _ h => h) (Or.inl ⟨by kernel_rfl, fun W => by first | rfl | go_simp⟩) ?_
          simp only [Act.put, List.getElem_toArray, List.getElem_cons_succ, List.getElem_cons_zero, List.setIfInBounds_toArray, List.set_cons_succ, List.set_cons_zero]
          refine wpAny_take (i := 11) (v := undef) rfl (by kernel_rfl) (by kernel_rfl) (by kernel_rfl) (fun _ _ _ h => h) (Or.inr ⟨by kernel_rfl, rfl⟩) ?_
          simp only [Act.put, List.getElem_toArray, List.getElem_cons_succ, List.getElem_cons_zero, List.setIfInBounds_toArray, List.set_cons_succ, List.set_cons_zero]
          refine wpAny_take (i := 12) (v := undef) rfl (by kernel_rfl) (by kernel_rfl) (by kernel_rfl) (fun _ _ _ h => h) (Or.inr ⟨by kernel_rfl, rfl⟩) ?_
          simp only [Act.put, List.getElem_toArray, List.getElem_cons_succ, List.getElem_cons_zero, List.setIfInBounds_toArray, List.set_cons_succ, List.set_cons_zero]
          refine wpAny_take (i := 13) (v := undef) rfl (by kernel_rfl) (by kernel_rfl) (by kernel_rfl) (fun _ _ _ h => h) (Or.inr ⟨by kernel_rfl, rfl⟩) ?_
          simp only [Act.put, List.getElem_toArray, List.getElem_cons_succ, List.getElem_cons_zero, List.setIfInBounds_toArray, List.set_cons_succ, List.set_cons_zero]
          refine wpAny_take (i := 14) (v := undef) rfl (by kernel_rfl) (by kernel_rfl) (by kernel_rfl) (fun _ _ _ h => h) (Or.inr ⟨by kernel_rfl, rfl⟩) ?_
          simp only [Act.put, List.getElem_toArray, List.getElem_cons_succ, List.getElem_cons_zero, List.setIfInBounds_toArray, List.set_cons_succ, List.set_cons_zero]
          refine wpAny_take (i := 15) (v := undef) rfl (by kernel_rfl) (by kernel_rfl) (by kernel_rfl) (fun _ _ _ h => h) (Or.inr ⟨by kernel_rfl, rfl⟩) ?_
          simp only [Act.put, List.getElem_toArray, List.getElem_cons_succ, List.getElem_cons_zero, List.setIfInBounds_toArray, List.set_cons_succ, List.set_cons_zero]
          refine wpAny_take (i := 16) (v := undef) rfl (by kernel_rfl) (by kernel_rfl) (by kernel_rfl) (fun _ _ _ h => h) (Or.inr ⟨by kernel_rfl, rfl⟩) ?_
          simp only [Act.put, List.getElem_toArray, List.getElem_cons_succ, List.getElem_cons_zero, List.setIfInBounds_toArray, List.set_cons_succ, List.set_cons_zero]
          refine wpAny_take (i := 17) (v := .bool false) rfl (by kernel_rfl) (by kernel_rfl) (by kernel_rfl) (fun _ _ _ h => h) (Or.inl ⟨by kernel_rfl, fun W => by first | rfl | go_simp⟩) ?_
          simp only [Act.put, List.getElem_toArray, List.getElem_cons_succ, List.getElem_cons_zero, List.setIfInBounds_toArray, List.set_cons_succ, List.set_cons_zero]
          refine wpAny_take (i := 18) (v := .bool false) rfl (by kernel_rfl) (by kernel_rfl) (by kernel_rfl) (fun _ _ _ h => h) (Or.inl ⟨by kernel_rfl, fun W => by first | rfl | go_simp⟩) ?_
          simp only [Act.put, List.getElem_toArray, List.getElem_cons_succ, List.getElem_cons_zero, List.setIfInBounds_toArray, List.set_cons_succ, List.set_cons_zero]
          refine wpAny_done (by kernel_rfl) ?_ _
          try simp only [List.getElem_toArray, List.getElem_cons_succ, List.getElem_cons_zero, List.setIfInBounds_toArray, List.set_cons_succ, List.set_cons_zero]
          go_wp2_with fail
          go_ret
          exact ⟨⟨false, rfl, by simp⟩, L2⟩
        · go_simp
          refine hK _ _ ?_
          clear hK K
          refine wpAny_ready (rs := [6]) (by kernel_rfl) (by simp) ?_
          refine AllReady.cons rfl (fun K hK => ?_) AllReady.nil
          go_simp
          refine hK _ _ ?_
          clear hK K
          refine wpAny_ready (rs := [8]) (by kernel_rfl) (by simp) ?_
          refine AllReady.cons rfl (fun K hK => ?_) AllReady.nil
          go_simp
          go_at_call 140
          refine (CI.out _).mono ?_
          rintro e w3 ⟨rfl, hb3⟩
          have hb5 := below_undrew hb3
          have BR2 := BR.below hb5 hgr
          have BC2 := BC.below hb5 hgc
          have BN2 := BN.below hb5 hgn
          have L2 := L.trans (hb5.mono L.size)
          have a0 := BR2.c0
          have a1 := BR2.c1
          have a2 := BR2.c2
          have a3 := BN2.c0
          have a4 : w3.cell? ⟨gc, 1, none⟩ = some (.int .i64 v) := BC2.cell 1
          have hgr2 := BR2.lt
          have hgc2 := BC2.lt
          clear hb3 hb5
          refine hK _ _ ?_
          clear hK K
          refine wpAny_take (i := 9) (v := .bool false) rfl (by kernel_rfl) (by kernel_rfl) (by kernel_rfl) (fun _ _ _ h => h) (Or.inl ⟨by kernel_rfl, fun W => by first | rfl | go_simp⟩) ?_
          simp only [Act.put, List.getElem_toArray, List.getElem_cons_succ, List.getElem_cons_zero, List.setIfInBounds_toArray, List.set_cons_succ, List.set_cons_zero]
          refine wpAny_take (i := 10) (v := .bool false) rfl (by kernel_rfl) (by kernel_rfl) (by kernel_rfl) (fun _ _ _ h => h) (Or.inl ⟨by kernel_rfl, fun W => by first | rfl | go_simp⟩) ?_
          simp only [Act.put, List.getElem_toArray, List.getElem_cons_succ, List.getElem_cons_zero, List.setIfInBounds_toArray, List.set_cons_succ, List.set_cons_zero]
          refine wpAny_take (i := 11) (v := undef) rfl (by kernel_rfl) (by kernel_rfl) (by kernel_rfl) (fun _ _ _ h => h) (Or.inr ⟨by kernel_rfl, rfl⟩) ?_
          simp only [Act.put, List.getElem_toArray, List.getElem_cons_succ, List.getElem_cons_zero, List.setIfInBounds_toArray, List.set_cons_succ, List.set_cons_zero]
          refine wpAny_take (i := 12) (v := undef) rfl (by kernel_rfl) (by kernel_rfl) (by kernel_rfl) (fun _ _ _ h => h) (Or.inr ⟨by kernel_rfl, rfl⟩) ?_
          simp only [Act.put, List.getElem_toArray, List.getElem_cons_succ, List.getElem_cons_zero, List.setIfInBounds_toArray, List.set_cons_succ, List.set_cons_zero]
          refine wpAny_take (i := 13) (v := undef) rfl (by kernel_rfl) (by kernel_rfl) (by kernel_rfl) (fun _ _ _ h => h) (Or.inr ⟨by kernel_rfl, rfl⟩) ?_
          simp only [Act.put, List.getElem_toArray, List.getElem_cons_succ, List.getElem_cons_zero, List.setIfInBounds_toArray, List.set_cons_succ, List.set_cons_zero]
          refine wpAny_take (i := 14) (v := undef) rfl (by kernel_rfl) (by kernel_rfl) (by kernel_rfl) (fun _ _ _ h => h) (Or.inr ⟨by kernel_rfl, rfl⟩) ?_
          simp only [Act.put, List.getElem_toArray, List.getElem_cons_succ, List.getElem_cons_zero, List.setIfInBounds_toArray, List.set_cons_succ, List.set_cons_zero]
          refine wpAny_take (i := 15) (v := undef) rfl (by kernel_rfl) (by kernel_rfl) (by kernel_rfl) (fun _ _ _ h => h) (Or.inr ⟨by kernel_rfl, rfl⟩) ?_
          simp only [Act.put, List.getElem_toArray, List.getElem_cons_succ, List.getElem_cons_zero, List.setIfInBounds_toArray, List.set_cons_succ, List.set_cons_zero]
          refine wpAny_take (i := 16) (v := undef) rfl (by kernel_rfl) (by kernel_rfl) (by kernel_rfl) (fun _ _ _ h => h) (Or.inr ⟨by kernel_rfl, rfl⟩) ?_
          simp only [Act.put, List.getElem_toArray, List.getElem_cons_succ, List.getElem_cons_zero, List.setIfInBounds_toArray, List.set_cons_succ, List.set_cons_zero]
          refine wpAny_take (i := 17) (v := .bool false) rfl (by kernel_rfl) (by kernel_rfl) (by kernel_rfl) (fun _ _ _ h => h) (Or.inl ⟨by kernel_rfl, fun W => by first | rfl | go_simp⟩) ?_
          simp only [Act.put, List.getElem_toArray, List.getElem_cons_succ, List.getElem_cons_zero, List.setIfInBounds_toArray, List.set_cons_succ, List.set_cons_zero]
          refine wpAny_take (i := 18) (v := .bool false) rfl (by kernel_rfl) (by kernel_rfl) (by kernel_rfl) (fun _ _ _ h => h) (Or.inl ⟨by kernel_rfl, fun W => by first | rfl | go_simp⟩) ?_
          simp only [Act.put, List.getElem_toArray, List.getElem_cons_succ, List.getElem_cons_zero, List.setIfInBounds_toArray, List.set_cons_succ, List.set_cons_zero]
          refine wpAny_done (by kernel_rfl) ?_ _
          try simp only [List.getElem_toArray, List.getElem_cons_succ, List.getElem_cons_zero, List.setIfInBounds_toArray, List.set_cons_succ, List.set_cons_zero]
          go_wp2_with fail
          go_ret
          exact ⟨⟨false, rfl, by simp⟩, L2⟩
      · go_simp
        refine hK _ _ ?_
        clear hK K
        refine wpAny_ready (rs := [1]) (by kernel_rfl) (by simp) ?_
        refine AllReady.cons rfl (fun K hK => ?_) AllReady.nil
        go_simp
        refine hK _ _ ?_
        clear hK K
        refine wpAny_take (i := 4) (v := .bool true) rfl (by kernel_rfl) (by kernel_rfl) (by kernel_rfl) (fun _ _ _ h => h) (Or.inl ⟨by kernel_rfl, fun W => by first | rfl | go_simp⟩) ?_
        simp only [Act.put, List.getElem_toArray, List.getElem_cons_succ, List.getElem_cons_zero, List.setIfInBounds_toArray, List.set_cons_succ, List.set_cons_zero]
        refine wpAny_take (i := 5) (v := .bool true) rfl (by kernel_rfl) (by kernel_rfl) (by kernel_rfl) (fun _ _ _ h => h) (Or.inl ⟨by kernel_rfl, fun W => by first | rfl | go_simp⟩) ?_
        simp only [Act.put, List.getElem_toArray, List.getElem_cons_succ, List.getElem_cons_zero, List.setIfInBounds_toArray, List.set_cons_succ, List.set_cons_zero]
        refine wpAny_ready (rs := [6, 7]) (by kernel_rfl) (by simp) ?_
        refine AllReady.cons rfl (fun K hK => ?_) (AllReady.cons rfl (fun K hK => ?_) AllReady.nil)
        · go_simp
          refine hK _ _ ?_
          clear hK K
          refine wpAny_ready (rs := [7]) (by kernel_rfl) (by simp) ?_
          refine AllReady.cons rfl (fun K hK => ?_) AllReady.nil
          go_simp
          refine hK _ _ ?_
          clear hK K
          refine wpAny_ready (rs := [8]) (by kernel_rfl) (by simp) ?_
          refine AllReady.cons rfl (fun K hK => ?_) AllReady.nil
          go_simp
          go_at_call 140
          refine (CI.out _).mono ?_
          rintro e w3 ⟨rfl, hb3⟩
          have hb5 := below_undrew hb3
          have BR2 := BR.below hb5 hgr
          have BC2 := BC.below hb5 hgc
          have BN2 := BN.below hb5 hgn
          have L2 := L.trans (hb5.mono L.size)
          have a0 := BR2.c0
          have a1 := BR2.c1
          have a2 := BR2.c2
          have a3 := BN2.c0
          have a4 : w3.cell? ⟨gc, 1, none⟩ = some (.int .i64 v) := BC2.cell 1
          have hgr2 := BR2.lt
          have hgc2 := BC2.lt
          clear hb3 hb5
          refine hK _ _ ?_
          clear hK K
          refine wpAny_take (i := 9) (v := .bool false) rfl (by kernel_rfl) (by kernel_rfl) (by kernel_rfl) (fun _ _ _ h => h) (Or.inl ⟨by kernel_rfl, fun W => by first | rfl | go_simp⟩) ?_
          simp only [Act.put, List.getElem_toArray, List.getElem_cons_succ, List.getElem_cons_zero, List.setIfInBounds_toArray, List.set_cons_succ, List.set_cons_zero]
          refine wpAny_take (i := 10) (v := .bool false) rfl (by kernel_rfl) (by kernel_rfl) (by kernel_rfl) (fun _ _ _ h => h) (Or.inl ⟨by kernel_rfl, fun W => by first | rfl | go_simp⟩) ?_
          simp only [Act.put, List.getElem_toArray, List.getElem_cons_succ, List.getElem_cons_zero, List.setIfInBounds_toArray, List.set_cons_succ, List.set_cons_zero]
          refine wpAny_take (i := 11) (v := undef) rfl (by kernel_rfl) (by kernel_rfl) (by kernel_rfl) (fun _ _ _ h => h) (Or.inr ⟨by kernel_rfl, rfl⟩) ?_
          simp only [Act.put, List.getElem_toArray, List.getElem_cons_succ, List.getElem_cons_zero, List.setIfInBounds_toArray, List.set_cons_succ, List.set_cons_zero]
          refine wpAny_take (i := 12) (v := undef) rfl (by kernel_rfl) (by kernel_rfl) (by kernel_rfl) (fun _ _ _ h => h) (Or.inr ⟨by kernel_rfl, rfl⟩) ?_
          simp only [Act.put, List.getElem_toArray, List.getElem_cons_succ, List.getElem_cons_zero, List.setIfInBounds_toArray, List.set_cons_succ, List.set_cons_zero]
          refine wpAny_take (i := 13) (v := undef) rfl (by kernel_rfl) (by kernel_rfl) (by kernel_rfl) (fun _ _ _ h => h) (Or.inr ⟨by kernel_rfl, rfl⟩) ?_
          simp only [Act.put, List.getElem_toArray, List.getElem_cons_succ, List.getElem_cons_zero, List.setIfInBounds_toArray, List.set_cons_succ, List.set_cons_zero]
          refine wpAny_take (i := 14) (v := undef) rfl (by kernel_rfl) (by kernel_rfl) (by kernel_rfl) (fun _ _ _ h => h) (Or.inr ⟨by kernel_rfl, rfl⟩) ?_
          simp only [Act.put, List.getElem_toArray, List.getElem_cons_succ, List.getElem_cons_zero, List.setIfInBounds_toArray, List.set_cons_succ, List.set_cons_zero]
          refine wpAny_take (i := 15) (v := undef) rfl (by kernel_rfl) (by kernel_rfl) (by kernel_rfl) (fun _ _ _ h => h) (Or.inr ⟨by kernel_rfl, rfl⟩) ?_
          simp only [Act.put, List.getElem_toArray, List.getElem_cons_succ, List.getElem_cons_zero, List.setIfInBounds_toArray, List.set_cons_succ, List.set_cons_zero]
          refine wpAny_take (i := 16) (v := undef) rfl (by kernel_rfl) (by kernel_rfl) (by kernel_rfl) (fun _ _ _ h => h) (Or.inr ⟨by kernel_rfl, rfl⟩) ?_
          simp only [Act.put, List.getElem_toArray, List.getElem_cons_succ, List.getElem_cons_zero, List.setIfInBounds_toArray, List.set_cons_succ, List.set_cons_zero]
          refine wpAny_take (i := 17) (v := .bool false) rfl (by kernel_rfl) (by kernel_rfl) (by kernel_rfl) (fun _ _ _ h => h) (Or.inl ⟨by kernel_rfl, fun W => by first | rfl | go_simp⟩) ?_
          simp only [Act.put, List.getElem_toArray, List.getElem_cons_succ, List.getElem_cons_zero, List.setIfInBounds_toArray, List.set_cons_succ, List.set_cons_zero]
          refine wpAny_take (i := 18) (v := .bool false) rfl (by kernel_rfl) (by kernel_rfl) (by kernel_rfl) (fun _ _ _ h => h) (Or.inl ⟨by kernel_rfl, fun W => by first | rfl | go_simp⟩) ?_
          simp only [Act.put, List.getElem_toArray, List.getElem_cons_succ, List.getElem_cons_zero, List.setIfInBounds_toArray, List.set_cons_succ, List.set_cons_zero]
          refine wpAny_done (by kernel_rfl) ?_ _
          try simp only [List.getElem_toArray, List.getElem_cons_succ, List.getElem_cons_zero, List.setIfInBounds_toArray, List.set_cons_succ, List.set_cons_zero]
          go_wp2_with fail
          go_ret
          exact ⟨⟨false, rfl, by simp⟩, L2⟩
        · go_simp
          refine hK _ _ ?_
          clear hK K
          refine wpAny_ready (rs := [6]) (by kernel_rfl) (by simp) ?_
          refine AllReady.cons rfl (fun K hK => ?_) AllReady.nil
          go_simp
          refine hK _ _ ?_
          clear hK K
          refine wpAny_ready (rs := [8]) (by kernel_rfl) (by simp) ?_
          refine AllReady.cons rfl (fun K hK => ?_) AllReady.nil
          go_simp
          go_at_call 140
          refine (CI.out _).mono ?_
          rintro e w3 ⟨rfl, hb3⟩
          have hb5 := below_undrew hb3
          have BR2 := BR.below hb5 hgr
          have BC2 := BC.below hb5 hgc
          have BN2 := BN.below hb5 hgn
          have L2 := L.trans (hb5.mono L.size)
          have a0 := BR2.c0
          have a1 := BR2.c1
          have a2 := BR2.c2
          have a3 := BN2.c0
          have a4 : w3.cell? ⟨gc, 1, none⟩ = some (.int .i64 v) := BC2.cell 1
          have hgr2 := BR2.lt
          have hgc2 := BC2.lt
          clear hb3 hb5
          refine hK _ _ ?_
          clear hK K
          refine wpAny_take (i := 9) (v := .bool false) rfl (by kernel_rfl) (by kernel_rfl) (by kernel_rfl) (fun _ _ _ h => h) (Or.inl ⟨by kernel_rfl, fun W => by first | rfl | go_simp⟩) ?_
          simp only [Act.put, List.getElem_toArray, List.getElem_cons_succ, List.getElem_cons_zero, List.setIfInBounds_toArray, List.set_cons_succ, List.set_cons_zero]
          refine wpAny_take (i := 10) (v := .bool false) rfl (by kernel_rfl) (by kernel_rfl) (by kernel_rfl) (fun _ _ _ h => h) (Or.inl ⟨by kernel_rfl, fun W => by first | rfl | go_simp⟩) ?_
          simp only [Act.put, List.getElem_toArray, List.getElem_cons_succ, List.getElem_cons_zero, List.setIfInBounds_toArray, List.set_cons_succ, List.set_cons_zero]
          refine wpAny_take (i := 11) (v := undef) rfl (by kernel_rfl) (by kernel_rfl) (by kernel_rfl) (fun _ _ _ h => h) (Or.inr ⟨by kernel_rfl, rfl⟩) ?_
          simp only [Act.put, List.getElem_toArray, List.getElem_cons_succ, List.getElem_cons_zero, List.setIfInBounds_toArray, List.set_cons_succ, List.set_cons_zero]
          refine wpAny_take (i := 12) (v := undef) rfl (by kernel_rfl) (by kernel_rfl) (by kernel_rfl) (fun _ _ _ h => h) (Or.inr ⟨by kernel_rfl, rfl⟩) ?_
          simp only [Act.put, List.getElem_toArray, List.getElem_cons_succ, List.getElem_cons_zero, List.setIfInBounds_toArray, List.set_cons_succ, List.set_cons_zero]
          refine wpAny_take (i := 13) (v := undef) rfl (by kernel_rfl) (by kernel_rfl) (by kernel_rfl) (fun _ _ _ h => h) (Or.inr ⟨by kernel_rfl, rfl⟩) ?_
          simp only [Act.put, List.getElem_toArray, List.getElem_cons_succ, List.getElem_cons_zero, List.setIfInBounds_toArray, List.set_cons_succ, List.set_cons_zero]
          refine wpAny_take (i := 14) (v := undef) rfl (by kernel_rfl) (by kernel_rfl) (by kernel_rfl) (fun _ _ _ h => h) (Or.inr ⟨by kernel_rfl, rfl⟩) ?_
          simp only [Act.put, List.getElem_toArray, List.getElem_cons_succ, List.getElem_cons_zero, List.setIfInBounds_toArray, List.set_cons_succ, List.set_cons_zero]
          refine wpAny_take (i := 15) (v := undef) rfl (by kernel_rfl) (by kernel_rfl) (by kernel_rfl) (fun _ _ _ h => h) (Or.inr ⟨by kernel_rfl, rfl⟩) ?_
          simp only [Act.put, List.getElem_toArray, List.getElem_cons_succ, List.getElem_cons_zero, List.setIfInBounds_toArray, List.set_cons_succ, List.set_cons_zero]
          refine wpAny_take (i := 16) (v := undef) rfl (by kernel_rfl) (by kernel_rfl) (by kernel_rfl) (fun _ _ _ h => h) (Or.inr ⟨by kernel_rfl, rfl⟩) ?_
          simp only [Act.put, List.getElem_toArray, List.getElem_cons_succ, List.getElem_cons_zero, List.setIfInBounds_toArray, List.set_cons_succ, List.set_cons_zero]
          refine wpAny_take (i := 17) (v := .bool false) rfl (by kernel_rfl) (by kernel_rfl) (by kernel_rfl) (fun _ _ _ h => h) (Or.inl ⟨by kernel_rfl, fun W => by first | rfl | go_simp⟩) ?_
          simp only [Act.put, List.getElem_toArray, List.getElem_cons_succ, List.getElem_cons_zero, List.setIfInBounds_toArray, List.set_cons_succ, List.set_cons_zero]
          refine wpAny_take (i := 18) (v := .bool false) rfl (by kernel_rfl) (by kernel_rfl) (by kernel_rfl) (fun _ _ _ h => h) (Or.inl ⟨by kernel_rfl, fun W => by first | rfl | go_simp⟩) ?_
          simp only [Act.put, List.getElem_toArray, List.getElem_cons_succ, List.getElem_cons_zero, List.setIfInBounds_toArray, List.set_cons_succ, List.set_cons_zero]
          refine wpAny_done (by kernel_rfl) ?_ _
          try simp only [List.getElem_toArray, List.getElem_cons_succ, List.getElem_cons_zero, List.setIfInBounds_toArray, List.set_cons_succ, List.set_cons_zero]
          go_wp2_with fail
          go_ret
          exact ⟨⟨false, rfl, by simp⟩, L2⟩
    | true => as_aux_lemma =>
      obtain ⟨i0, i1⟩ := inB_iff.1 hb
      have CON := Lib.hid (fun W => i_year7 ⟨z.toArray⟩ F T n W (by omega) (by omega) h1)
      obtain ⟨Q, hQ⟩ : ∃ Q, ky F n = Q := ⟨_, rfl⟩
      rw [hQ] at CON ⊢
      rw [hb]
      obtain ⟨b, hb3⟩ : ∃ b, decide (Q = v) = b := ⟨_, rfl⟩
      have hb2 : (Q == v) = b := by rw [← hb3]; by_cases h : Q = v <;> simp [h]
      have hiff : b = true ↔ (z = z ∧ true = true ∧ Q = v) := by rw [← hb3]; simp
      clear hQ i0 i1 ho hb
      rw [hwz] at r0 r1 r2 n0 c1 c7 hgr hgc hgn BR BC BN L
      go_enter Tryz.func166, Tryz.ntmps166
      go_wp2_with fail
      refine wp_region_any (by kernel_rfl) ?_
      change wpAny _ _ _ _ _ _ _ (World.drew _)
      refine wpAny_take (i := 0) (v := .pointer (some ⟨w.heap.size, 0, none⟩)) rfl (by kernel_rfl) (by kernel_rfl) (by kernel_rfl) (fun _ _ _ h => h) (Or.inl ⟨by kernel_rfl, fun W => by first | rfl | go_simp⟩) ?_
      simp only [Act.put, List.getElem_toArray, List.getElem_cons_succ, List.getElem_cons_zero, List.setIfInBounds_toArray, List.set_cons_succ, List.set_cons_zero]
      refine wpAny_take (i := 2) (v := .pointer (some ⟨gc, 7, none⟩)) rfl (by kernel_rfl) (by kernel_rfl) (by kernel_rfl) (fun _ _ _ h => h) (Or.inl ⟨by kernel_rfl, fun W => by first | rfl | go_simp⟩) ?_
      simp only [Act.put, List.getElem_toArray, List.getElem_cons_succ, List.getElem_cons_zero, List.setIfInBounds_toArray, List.set_cons_succ, List.set_cons_zero]
      refine wpAny_ready (rs := [1, 3]) (by kernel_rfl) (by simp) ?_
      refine AllReady.cons rfl (fun K hK => ?_) (AllReady.cons rfl (fun K hK => ?_) AllReady.nil)
      · go_simp
        refine hK _ _ ?_
        clear hK K
        refine wpAny_ready (rs := [3]) (by kernel_rfl) (by simp) ?_
        refine AllReady.cons rfl (fun K hK => ?_) AllReady.nil
        go_simp
        refine hK _ _ ?_
        clear hK K
        refine wpAny_take (i := 4) (v := .bool true) rfl (by kernel_rfl) (by kernel_rfl) (by kernel_rfl) (fun _ _ _ h => h) (Or.inl ⟨by kernel_rfl, fun W => by first | rfl | go_simp⟩) ?_
        simp only [Act.put, List.getElem_toArray, List.getElem_cons_succ, List.getElem_cons_zero, List.setIfInBounds_toArray, List.set_cons_succ, List.set_cons_zero]
        refine wpAny_take (i := 5) (v := .bool true) rfl (by kernel_rfl) (by kernel_rfl) (by kernel_rfl) (fun _ _ _ h => h) (Or.inl ⟨by kernel_rfl, fun W => by first | rfl | go_simp⟩) ?_
        simp only [Act.put, List.getElem_toArray, List.getElem_cons_succ, List.getElem_cons_zero, List.setIfInBounds_toArray, List.set_cons_succ, List.set_cons_zero]
        refine wpAny_ready (rs := [6, 7]) (by kernel_rfl) (by simp) ?_
        refine AllReady.cons rfl (fun K hK => ?_) (AllReady.cons rfl (fun K hK => ?_) AllReady.nil)
        · go_simp
          refine hK _ _ ?_
          clear hK K
          refine wpAny_ready (rs := [7]) (by kernel_rfl) (by simp) ?_
          refine AllReady.cons rfl (fun K hK => ?_) AllReady.nil
          go_simp
          refine hK _ _ ?_
          clear hK K
          refine wpAny_ready (rs := [8]) (by kernel_rfl) (by simp) ?_
          refine AllReady.cons rfl (fun K hK => ?_) AllReady.nil
          go_simp
          go_at_call 140
          refine (CI.out _).mono ?_
          rintro e w3 ⟨rfl, hb3⟩
          have hb5 := below_undrew hb3
          have BR2 := BR.below hb5 hgr
          have BC2 := BC.below hb5 hgc
          have BN2 := BN.below hb5 hgn
          have L2 := L.trans (hb5.mono L.size)
          have a0 := BR2.c0
          have a1 := BR2.c1
          have a2 := BR2.c2
          have a3 := BN2.c0
          have a4 : w3.cell? ⟨gc, 1, none⟩ = some (.int .i64 v) := BC2.cell 1
          have hgr2 := BR2.lt
          have hgc2 := BC2.lt
          clear hb3 hb5
          refine hK _ _ ?_
          clear hK K
          refine wpAny_take (i := 9) (v := .bool true) rfl (by kernel_rfl) (by kernel_rfl) (by kernel_rfl) (fun _ _ _ h => h) (Or.inl ⟨by kernel_rfl, fun W => by first | rfl | go_simp⟩) ?_
          simp only [Act.put, List.getElem_toArray, List.getElem_cons_succ, List.getElem_cons_zero, List.setIfInBounds_toArray, List.set_cons_succ, List.set_cons_zero]
          refine wpAny_take (i := 10) (v := .bool true) rfl (by kernel_rfl) (by kernel_rfl) (by kernel_rfl) (fun _ _ _ h => h) (Or.inl ⟨by kernel_rfl, fun W => by first | rfl | go_simp⟩) ?_
          simp only [Act.put, List.getElem_toArray, List.getElem_cons_succ, List.getElem_cons_zero, List.setIfInBounds_toArray, List.set_cons_succ, List.set_cons_zero]
          refine wpAny_take (i := 14) (v := .pointer (some ⟨gc, 1, none⟩)) rfl (by kernel_rfl) (by kernel_rfl) (by kernel_rfl) (fun _ _ _ h => h) (Or.inl ⟨by kernel_rfl, fun W => by first | rfl | go_simp⟩) ?_
          simp only [Act.put, List.getElem_toArray, List.getElem_cons_succ, List.getElem_cons_zero, List.setIfInBounds_toArray, List.set_cons_succ, List.set_cons_zero]
          refine wpAny_ready (rs := [11, 12, 15]) (by kernel_rfl) (by simp) ?_
          refine AllReady.cons rfl (fun K hK => ?_) (AllReady.cons rfl (fun K hK => ?_) (AllReady.cons rfl (fun K hK => ?_) AllReady.nil))
          · go_simp
            refine hK _ _ ?_
            clear hK K
            refine wpAny_ready (rs := [12, 15]) (by kernel_rfl) (by simp) ?_
            refine AllReady.cons rfl (fun K hK => ?_) (AllReady.cons rfl (fun K hK => ?_) AllReady.nil)
            · go_simp
              refine hK _ _ ?_
              clear hK K
              refine wpAny_ready (rs := [13, 15]) (by kernel_rfl) (by simp) ?_
              refine AllReady.cons rfl (fun K hK => ?_) (AllReady.cons rfl (fun K hK => ?_) AllReady.nil)
              · go_simp
                go_at_call 79
                refine (CON.out _).mono ?_
                rintro e w4 ⟨rfl, hb4⟩
                have L3 := L2.trans (hb4.mono L2.size)
                have BC3 := BC2.below hb4 hgc2
                have a5 : w4.cell? ⟨gc, 1, none⟩ = some (.int .i64 v) := BC3.cell 1
                clear hb4
                refine hK _ _ ?_
                clear hK K
                refine wpAny_ready (rs := [15]) (by kernel_rfl) (by simp) ?_
                refine AllReady.cons rfl (fun K hK => ?_) AllReady.nil
                go_simp
                refine hK _ _ ?_
                clear hK K
                refine wpAny_take (i := 16) (v := .bool b) rfl (by kernel_rfl) (by kernel_rfl) (by kernel_rfl) (fun _ _ _ h => h) (Or.inl ⟨by kernel_rfl, fun W => by first | rfl | go_simp⟩) ?_
                simp only [Act.put, List.getElem_toArray, List.getElem_cons_succ, List.getElem_cons_zero, List.setIfInBounds_toArray, List.set_cons_succ, List.set_cons_zero]
                refine wpAny_take (i := 17) (v := .bool b) rfl (by kernel_rfl) (by kernel_rfl) (by kernel_rfl) (fun _ _ _ h => h) (Or.inl ⟨by kernel_rfl, fun W => by first | rfl | go_simp⟩) ?_
                simp only [Act.put, List.getElem_toArray, List.getElem_cons_succ, List.getElem_cons_zero, List.setIfInBounds_toArray, List.set_cons_succ, List.set_cons_zero]
                refine wpAny_take (i := 18) (v := .bool b) rfl (by kernel_rfl) (by kernel_rfl) (by kernel_rfl) (fun _ _ _ h => h) (Or.inl ⟨by kernel_rfl, fun W => by first | rfl | go_simp⟩) ?_
                simp only [Act.put, List.getElem_toArray, List.getElem_cons_succ, List.getElem_cons_zero, List.setIfInBounds_toArray, List.set_cons_succ, List.set_cons_zero]
                refine wpAny_done (by kernel_rfl) ?_ _
                try simp only [List.getElem_toArray, List.getElem_cons_succ, List.getElem_cons_zero, List.setIfInBounds_toArray, List.set_cons_succ, List.set_cons_zero]
                go_wp2_with fail
                go_ret
                exact ⟨⟨b, rfl, hiff⟩, L3⟩
              · go_simp
                refine hK _ _ ?_
                clear hK K
                refine wpAny_ready (rs := [13]) (by kernel_rfl) (by simp) ?_
                refine AllReady.cons rfl (fun K hK => ?_) AllReady.nil
                go_simp
                go_at_call 79
                refine (CON.out _).mono ?_
                rintro e w4 ⟨rfl, hb4⟩
                have L3 := L2.trans (hb4.mono L2.size)
                have BC3 := BC2.below hb4 hgc2
                have a5 : w4.cell? ⟨gc, 1, none⟩ = some (.int .i64 v) := BC3.cell 1
                clear hb4
                refine hK _ _ ?_
                clear hK K
                refine wpAny_take (i := 16) (v := .bool b) rfl (by kernel_rfl) (by kernel_rfl) (by kernel_rfl) (fun _ _ _ h => h) (Or.inl ⟨by kernel_rfl, fun W => by first | rfl | go_simp⟩) ?_
                simp only [Act.put, List.getElem_toArray, List.getElem_cons_succ, List.getElem_cons_zero, List.setIfInBounds_toArray, List.set_cons_succ, List.set_cons_zero]
                refine wpAny_take (i := 17) (v := .bool b) rfl (by kernel_rfl) (by kernel_rfl) (by kernel_rfl) (fun _ _ _ h => h) (Or.inl ⟨by kernel_rfl, fun W => by first | rfl | go_simp⟩) ?_
                simp only [Act.put, List.getElem_toArray, List.getElem_cons_succ, List.getElem_cons_zero, List.setIfInBounds_toArray, List.set_cons_succ, List.set_cons_zero]
                refine wpAny_take (i := 18) (v := .bool b) rfl (by kernel_rfl) (by kernel_rfl) (by kernel_rfl) (fun _ _ _ h => h) (Or.inl ⟨by kernel_rfl, fun W => by first | rfl | go_simp⟩) ?_
                simp only [Act.put, List.getElem_toArray, List.getElem_cons_succ, List.getElem_cons_zero, List.setIfInBounds_toArray, List.set_cons_succ, List.set_cons_zero]
                refine wpAny_done (by kernel_rfl) ?_ _
                try simp only [List.getElem_toArray, List.getElem_cons_succ, List.getElem_cons_zero, List.setIfInBounds_toArray, List.set_cons_succ, List.set_cons_zero]
                go_wp2_with fail
                go_ret
                exact ⟨⟨b, rfl, hiff⟩, L3⟩
            · go_simp
              refine hK _ _ ?_
              clear hK K
              refine wpAny_ready (rs := [12]) (by kernel_rfl) (by simp) ?_
              refine AllReady.cons rfl (fun K hK => ?_) AllReady.nil
              go_simp
              refine hK _ _ ?_
              clear hK K
              refine wpAny_ready (rs := [13]) (by kernel_rfl) (by simp) ?_
              refine AllReady.cons rfl (fun K hK => ?_) AllReady.nil
              go_simp
              go_at_call 79
              refine (CON.out _).mono ?_
              rintro e w4 ⟨rfl, hb4⟩
              have L3 := L2.trans (hb4.mono L2.size)
              have BC3 := BC2.below hb4 hgc2
              have a5 : w4.cell? ⟨gc, 1, none⟩ = some (.int .i64 v) := BC3.cell 1
              clear hb4
              refine hK _ _ ?_
              clear hK K
              refine wpAny_take (i := 16) (v := .bool b) rfl (by kernel_rfl) (by kernel_rfl) (by kernel_rfl) (fun _ _ _ h => h) (Or.inl ⟨by kernel_rfl, fun W => by first | rfl | go_simp⟩) ?_
              simp only [Act.put, List.getElem_toArray, List.getElem_cons_succ, List.getElem_cons_zero, List.setIfInBounds_toArray, List.set_cons_succ, List.set_cons_zero]
              refine wpAny_take (i := 17) (v := .bool b) rfl (by kernel_rfl) (by kernel_rfl) (by kernel_rfl) (fun _ _ _ h => h) (Or.inl ⟨by kernel_rfl, fun W => by first | rfl | go_simp⟩) ?_
              simp only [Act.put, List.getElem_toArray, List.getElem_cons_succ, List.getElem_cons_zero, List.setIfInBounds_toArray, List.set_cons_succ, List.set_cons_zero]
              refine wpAny_take (i := 18) (v := .bool b) rfl (by kernel_rfl) (by kernel_rfl) (by kernel_rfl) (fun _ _ _ h => h) (Or.inl ⟨by kernel_rfl, fun W => by first | rfl | go_simp⟩) ?_
              simp only [Act.put, List.getElem_toArray, List.getElem_cons_succ, List.getElem_cons_zero, List.setIfInBounds_toArray, List.set_cons_succ, List.set_cons_zero]
              refine wpAny_done (by kernel_rfl) ?_ _
              try simp only [List.getElem_toArray, List.getElem_cons_succ, List.getElem_cons_zero, List.setIfInBounds_toArray, List.set_cons_succ, List.set_cons_zero]
              go_wp2_with fail
              go_ret
              exact ⟨⟨b, rfl, hiff⟩, L3⟩
          · go_simp
            refine hK _ _ ?_
            clear hK K
            refine wpAny_ready (rs := [11, 15]) (by kernel_rfl) (by simp) ?_
            refine AllReady.cons rfl (fun K hK => ?_) (AllReady.cons rfl (fun K hK => ?_) AllReady.nil)
            · go_simp
              refine hK _ _ ?_
              clear hK K
              refine wpAny_ready (rs := [13, 15]) (by kernel_rfl) (by simp) ?_
              refine AllReady.cons rfl (fun K hK => ?_) (AllReady.cons rfl (fun K hK => ?_) AllReady.nil)
              · go_simp
                go_at_call 79
                refine (CON.out _).mono ?_
                rintro e w4 ⟨rfl, hb4⟩
                have L3 := L2.trans (hb4.mono L2.size)
                have BC3 := BC2.below hb4 hgc2
                have a5 : w4.cell? ⟨gc, 1, none⟩ = some (.int .i64 v) := BC3.cell 1
                clear hb4
                refine hK _ _ ?_
                clear hK K
                refine wpAny_ready (rs := [15]) (by kernel_rfl) (by simp) ?_
                refine AllReady.cons rfl (fun K hK => ?_) AllReady.nil
                go_simp
                refine hK _ _ ?_
                clear hK K
                refine wpAny_take (i := 16) (v := .bool b) rfl (by kernel_rfl) (by kernel_rfl) (by kernel_rfl) (fun _ _ _ h => h) (Or.inl ⟨by kernel_rfl, fun W => by first | rfl | go_simp⟩) ?_
                simp only [Act.put, List.getElem_toArray, List.getElem_cons_succ, List.getElem_cons_zero, List.setIfInBounds_toArray, List.set_cons_succ, List.set_cons_zero]
                refine wpAny_take (i := 17) (v := .bool b) rfl (by kernel_rfl) (by kernel_rfl) (by kernel_rfl) (fun _ _ _ h => h) (Or.inl ⟨by kernel_rfl, fun W => by first | rfl | go_simp⟩) ?_
                simp only [Act.put, List.getElem_toArray, List.getElem_cons_succ, List.getElem_cons_zero, List.setIfInBounds_toArray, List.set_cons_succ, List.set_cons_zero]
                refine wpAny_take (i := 18) (v := .bool b) rfl (by kernel_rfl) (by kernel_rfl) (by kernel_rfl) (fun _ _ _ h => h) (Or.inl ⟨by kernel_rfl, fun W => by first | rfl | go_simp⟩) ?_
                simp only [Act.put, List.getElem_toArray, List.getElem_cons_succ, List.getElem_cons_zero, List.setIfInBounds_toArray, List.set_cons_succ, List.set_cons_zero]
                refine wpAny_done (by kernel_rfl) ?_ _
                try simp only [List.getElem_toArray, List.getElem_cons_succ, List.getElem_cons_zero, List.setIfInBounds_toArray, List.set_cons_succ, List.set_cons_zero]
                go_wp2_with fail
                go_ret
                exact ⟨⟨b, rfl, hiff⟩, L3⟩
              · go_simp
                refine hK _ _ ?_
                clear hK K
                refine wpAny_ready (rs := [13]) (by kernel_rfl) (by simp) ?_
                refine AllReady.cons rfl (fun K hK => ?_) AllReady.nil
                go_simp
                go_at_call 79
                refine (CON.out _).mono ?_
                rintro e w4 ⟨rfl, hb4⟩
                have L3 := L2.trans (hb4.mono L2.size)
                have BC3 := BC2.below hb4 hgc2
                have a5 : w4.cell? ⟨gc, 1, none⟩ = some (.int .i64 v) := BC3.cell 1
                clear hb4
                refine hK _ _ ?_
                clear hK K
                refine wpAny_take (i := 16) (v := .bool b) rfl (by kernel_rfl) (by kernel_rfl) (by kernel_rfl) (fun _ _ _ h => h) (Or.inl ⟨by kernel_rfl, fun W => by first | rfl | go_simp⟩) ?_
                simp only [Act.put, List.getElem_toArray, List.getElem_cons_succ, List.getElem_cons_zero, List.setIfInBounds_toArray, List.set_cons_succ, List.set_cons_zero]
                refine wpAny_take (i := 17) (v := .bool b) rfl (by kernel_rfl) (by kernel_rfl) (by kernel_rfl) (fun _ _ _ h => h) (Or.inl ⟨by kernel_rfl, fun W => by first | rfl | go_simp⟩) ?_
                simp only [Act.put, List.getElem_toArray, List.getElem_cons_succ, List.getElem_cons_zero, List.setIfInBounds_toArray, List.set_cons_succ, List.set_cons_zero]
                refine wpAny_take (i := 18) (v := .bool b) rfl (by kernel_rfl) (by kernel_rfl) (by kernel_rfl) (fun _ _ _ h => h) (Or.inl ⟨by kernel_rfl, fun W => by first | rfl | go_simp⟩) ?_
                simp only [Act.put, List.getElem_toArray, List.getElem_cons_succ, List.getElem_cons_zero, List.setIfInBounds_toArray, List.set_cons_succ, List.set_cons_zero]
                refine wpAny_done (by kernel_rfl) ?_ _
                try simp only [List.getElem_toArray, List.getElem_cons_succ, List.getElem_cons_zero, List.setIfInBounds_toArray, List.set_cons_succ, List.set_cons_zero]
                go_wp2_with fail
                go_ret
                exact ⟨⟨b, rfl, hiff⟩, L3⟩
            · go_simp
              refine hK _ _ ?_
              clear hK K
              refine wpAny_ready (rs := [11]) (by kernel_rfl) (by simp) ?_
              refine AllReady.cons rfl (fun K hK => ?_) AllReady.nil
              go_simp
              refine hK _ _ ?_
              clear hK K
              refine wpAny_ready (rs := [13]) (by kernel_rfl) (by simp) ?_
              refine AllReady.cons rfl (fun K hK => ?_) AllReady.nil
              go_simp
              go_at_call 79
              refine (CON.out _).mono ?_
              rintro e w4 ⟨rfl, hb4⟩
              have L3 := L2.trans (hb4.mono L2.size)
              have BC3 := BC2.below hb4 hgc2
              have a5 : w4.cell? ⟨gc, 1, none⟩ = some (.int .i64 v) := BC3.cell 1
              clear hb4
              refine hK _ _ ?_
              clear hK K
              refine wpAny_take (i := 16) (v := .bool b) rfl (by kernel_rfl) (by kernel_rfl) (by kernel_rfl) (fun _ _ _ h => h) (Or.inl ⟨by kernel_rfl, fun W => by first | rfl | go_simp⟩) ?_
              simp only [Act.put, List.getElem_toArray, List.getElem_cons_succ, List.getElem_cons_zero, List.setIfInBounds_toArray, List.set_cons_succ, List.set_cons_zero]
              refine wpAny_take (i := 17) (v := .bool b) rfl (by kernel_rfl) (by kernel_rfl) (by kernel_rfl) (fun _ _ _ h => h) (Or.inl ⟨by kernel_rfl, fun W => by first | rfl | go_simp⟩) ?_
              simp only [Act.put, List.getElem_toArray, List.getElem_cons_succ, List.getElem_cons_zero, List.setIfInBounds_toArray, List.set_cons_succ, List.set_cons_zero]
              refine wpAny_take (i := 18) (v := .bool b) rfl (by kernel_rfl) (by kernel_rfl) (by kernel_rfl) (fun _ _ _ h => h) (Or.inl ⟨by kernel_rfl, fun W => by first | rfl | go_simp⟩) ?_
              simp only [Act.put, List.getElem_toArray, List.getElem_cons_succ, List.getElem_cons_zero, List.setIfInBounds_toArray, List.set_cons_succ, List.set_cons_zero]
              refine wpAny_done (by kernel_rfl) ?_ _
              try simp only [List.getElem_toArray, List.getElem_cons_succ, List.getElem_cons_zero, List.setIfInBounds_toArray, List.set_cons_succ, List.set_cons_zero]
              go_wp2_with fail
              go_ret
              exact ⟨⟨b, rfl, hiff⟩, L3⟩
          · go_simp
            refine hK _ _ ?_
            clear hK K
            refine wpAny_ready (rs := [11, 12]) (by kernel_rfl) (by simp) ?_
            refine AllReady.cons rfl (fun K hK => ?_) (AllReady.cons rfl (fun K hK => ?_) AllReady.nil)
            · go_simp
              refine hK _ _ ?_
              clear hK K
              refine wpAny_ready (rs := [12]) (by kernel_rfl) (by simp) ?_
              refine AllReady.cons rfl (fun K hK => ?_) AllReady.nil
              go_simp
              refine hK _ _ ?_
              clear hK K
              refine wpAny_ready (rs := [13]) (by kernel_rfl) (by simp) ?_
              refine AllReady.cons rfl (fun K hK => ?_) AllReady.nil
              go_simp
              go_at_call 79
              refine (CON.out _).mono ?_
              rintro e w4 ⟨rfl, hb4⟩
              have L3 := L2.trans (hb4.mono L2.size)
              have BC3 := BC2.below hb4 hgc2
              have a5 : w4.cell? ⟨gc, 1, none⟩ = some (.int .i64 v) := BC3.cell 1
              clear hb4
              refine hK _ _ ?_
              clear hK K
              refine wpAny_take (i := 16) (v := .bool b) rfl (by kernel_rfl) (by kernel_rfl) (by kernel_rfl) (fun _ _ _ h => h) (Or.inl ⟨by kernel_rfl, fun W => by first | rfl | go_simp⟩) ?_
              simp only [Act.put, List.getElem_toArray, List.getElem_cons_succ, List.getElem_cons_zero, List.setIfInBounds_toArray, List.set_cons_succ, List.set_cons_zero]
              refine wpAny_take (i := 17) (v := .bool b) rfl (by kernel_rfl) (by kernel_rfl) (by kernel_rfl) (fun _ _ _ h => h) (Or.inl ⟨by kernel_rfl, fun W => by first | rfl | go_simp⟩) ?_
              simp only [Act.put, List.getElem_toArray, List.getElem_cons_succ, List.getElem_cons_zero, List.setIfInBounds_toArray, List.set_cons_succ, List.set_cons_zero]
              refine wpAny_take (i := 18) (v := .bool b) rfl (by kernel_rfl) (by kernel_rfl) (by kernel_rfl) (fun _ _ _ h => h) (Or.inl ⟨by kernel_rfl, fun W => by first | rfl | go_simp⟩) ?_
              simp only [Act.put, List.getElem_toArray, List.getElem_cons_succ, List.getElem_cons_zero, List.setIfInBounds_toArray, List.set_cons_succ, List.set_cons_zero]
              refine wpAny_done (by kernel_rfl) ?_ _
              try simp only [List.getElem_toArray, List.getElem_cons_succ, List.getElem_cons_zero, List.setIfInBounds_toArray, List.set_cons_succ, List.set_cons_zero]
              go_wp2_with fail
              go_ret
              exact ⟨⟨b, rfl, hiff⟩, L3⟩
            · go_simp
              refine hK _ _ ?_
              clear hK K
              refine wpAny_ready (rs := [11]) (by kernel_rfl) (by simp) ?_
              refine AllReady.cons rfl (fun K hK => ?_) AllReady.nil
              go_simp
              refine hK _ _ ?_
              clear hK K
              refine wpAny_ready (rs := [13]) (by kernel_rfl) (by simp) ?_
              refine AllReady.cons rfl (fun K hK => ?_) AllReady.nil
              go_simp
              go_at_call 79
              refine (CON.out _).mono ?_
              rintro e w4 ⟨rfl, hb4⟩
              have L3 := L2.trans (hb4.mono L2.size)
              have BC3 := BC2.below hb4 hgc2
              have a5 : w4.cell? ⟨gc, 1, none⟩ = some (.int .i64 v) := BC3.cell 1
              clear hb4
              refine hK _ _ ?_
              clear hK K
              refine wpAny_take (i := 16) (v := .bool b) rfl (by kernel_rfl) (by kernel_rfl) (by kernel_rfl) (fun _ _ _ h => h) (Or.inl ⟨by kernel_rfl, fun W => by first | rfl | go_simp⟩) ?_
              simp only [Act.put, List.getElem_toArray, List.getElem_cons_succ, List.getElem_cons_zero, List.setIfInBounds_toArray, List.set_cons_succ, List.set_cons_zero]
              refine wpAny_take (i := 17) (v := .bool b) rfl (by kernel_rfl) (by kernel_rfl) (by kernel_rfl) (fun _ _ _ h => h) (Or.inl ⟨by kernel_rfl, fun W => by first | rfl | go_simp⟩) ?_
              simp only [Act.put, List.getElem_toArray, List.getElem_cons_succ, List.getElem_cons_zero, List.setIfInBounds_toArray, List.set_cons_succ, List.set_cons_zero]
              refine wpAny_take (i := 18) (v := .bool b) rfl (by kernel_rfl) (by kernel_rfl) (by kernel_rfl) (fun _ _ _ h => h) (Or.inl ⟨by kernel_rfl, fun W => by first | rfl | go_simp⟩) ?_
              simp only [Act.put, List.getElem_toArray, List.getElem_cons_succ, List.getElem_cons_zero, List.setIfInBounds_toArray, List.set_cons_succ, List.set_cons_zero]
              refine wpAny_done (by kernel_rfl) ?_ _
              try simp only [List.getElem_toArray, List.getElem_cons_succ, List.getElem_cons_zero, List.setIfInBounds_toArray, List.set_cons_succ, List.set_cons_zero]
              go_wp2_with fail
              go_ret
              exact ⟨⟨b, rfl, hiff⟩, L3⟩
        · go_simp
          refine hK _ _ ?_
          clear hK K
          refine wpAny_ready (rs := [6]) (by kernel_rfl) (by simp) ?_
          refine AllReady.cons rfl (fun K hK => ?_) AllReady.nil
          go_simp
          refine hK _ _ ?_
          clear hK K
          refine wpAny_ready (rs := [8]) (by kernel_rfl) (by simp) ?_
          refine AllReady.cons rfl (fun K hK => ?_) AllReady.nil
          go_simp
          go_at_call 140
          refine (CI.out _).mono ?_
          rintro e w3 ⟨rfl, hb3⟩
          have hb5 := below_undrew hb3
          have BR2 := BR.below hb5 hgr
          have BC2 := BC.below hb5 hgc
          have BN2 := BN.below hb5 hgn
          have L2 := L.trans (hb5.mono L.size)
          have a0 := BR2.c0
          have a1 := BR2.c1
          have a2 := BR2.c2
          have a3 := BN2.c0
          have a4 : w3.cell? ⟨gc, 1, none⟩ = some (.int .i64 v) := BC2.cell 1
          have hgr2 := BR2.lt
          have hgc2 := BC2.lt
          clear hb3 hb5
          refine hK _ _ ?_
          clear hK K
          refine wpAny_take (i := 9) (v := .bool true) rfl (by kernel_rfl) (by kernel_rfl) (by kernel_rfl) (fun _ _ _ h => h) (Or.inl ⟨by kernel_rfl, fun W => by first | rfl | go_simp⟩) ?_
          simp only [Act.put, List.getElem_toArray, List.getElem_cons_succ, List.getElem_cons_zero, List.setIfInBounds_toArray, List.set_cons_succ, List.set_cons_zero]
          refine wpAny_take (i := 10) (v := .bool true) rfl (by kernel_rfl) (by kernel_rfl) (by kernel_rfl) (fun _ _ _ h => h) (Or.inl ⟨by kernel_rfl, fun W => by first | rfl | go_simp⟩) ?_
          simp only [Act.put, List.getElem_toArray, List.getElem_cons_succ, List.getElem_cons_zero, List.setIfInBounds_toArray, List.set_cons_succ, List.set_cons_zero]
          refine wpAny_take (i := 14) (v := .pointer (some ⟨gc, 1, none⟩)) rfl (by kernel_rfl) (by kernel_rfl) (by kernel_rfl) (fun _ _ _ h => h) (Or.inl ⟨by kernel_rfl, fun W => by first | rfl | go_simp⟩) ?_
          simp only [Act.put, List.getElem_toArray, List.getElem_cons_succ, List.getElem_cons_zero, List.setIfInBounds_toArray, List.set_cons_succ, List.set_cons_zero]
          refine wpAny_ready (rs := [11, 12, 15]) (by kernel_rfl) (by simp) ?_
          refine AllReady.cons rfl (fun K hK => ?_) (AllReady.cons rfl (fun K hK => ?_) (AllReady.cons rfl (fun K hK => ?_) AllReady.nil))
          · go_simp
            refine hK _ _ ?_
            clear hK K
            refine wpAny_ready (rs := [12, 15]) (by kernel_rfl) (by simp) ?_
            refine AllReady.cons rfl (fun K hK => ?_) (AllReady.cons rfl (fun K hK => ?_) AllReady.nil)
            · go_simp
              refine hK _ _ ?_
              clear hK K
              refine wpAny_ready (rs := [13, 15]) (by kernel_rfl) (by simp) ?_
              refine AllReady.cons rfl (fun K hK => ?_) (AllReady.cons rfl (fun K hK => ?_) AllReady.nil)
              · go_simp
                go_at_call 79
                refine (CON.out _).mono ?_
                rintro e w4 ⟨rfl, hb4⟩
                have L3 := L2.trans (hb4.mono L2.size)
                have BC3 := BC2.below hb4 hgc2
                have a5 : w4.cell? ⟨gc, 1, none⟩ = some (.int .i64 v) := BC3.cell 1
                clear hb4
                refine hK _ _ ?_
                clear hK K
                refine wpAny_ready (rs := [15]) (by kernel_rfl) (by simp) ?_
                refine AllReady.cons rfl (fun K hK => ?_) AllReady.nil
                go_simp
                refine hK _ _ ?_
                clear hK K
                refine wpAny_take (i := 16) (v := .bool b) rfl (by kernel_rfl) (by kernel_rfl) (by kernel_rfl) (fun _ _ _ h => h) (Or.inl ⟨by kernel_rfl, fun W => by first | rfl | go_simp⟩) ?_
                simp only [Act.put, List.getElem_toArray, List.getElem_cons_succ, List.getElem_cons_zero, List.setIfInBounds_toArray, List.set_cons_succ, List.set_cons_zero]
                refine wpAny_take (i := 17) (v := .bool b) rfl (by kernel_rfl) (by kernel_rfl) (by kernel_rfl) (fun _ _ _ h => h) (Or.inl ⟨by kernel_rfl, fun W => by first | rfl | go_simp⟩) ?_
                simp only [Act.put, List.getElem_toArray, List.getElem_cons_succ, List.getElem_cons_zero, List.setIfInBounds_toArray, List.set_cons_succ, List.set_cons_zero]
                refine wpAny_take (i := 18) (v := .bool b) rfl (by kernel_rfl) (by kernel_rfl) (by kernel_rfl) (fun _ _ _ h => h) (Or.inl ⟨by kernel_rfl, fun W => by first | rfl | go_simp⟩) ?_
                simp only [Act.put, List.getElem_toArray, List.getElem_cons_succ, List.getElem_cons_zero, List.setIfInBounds_toArray, List.set_cons_succ, List.set_cons_zero]
                refine wpAny_done (by kernel_rfl) ?_ _
                try simp only [List.getElem_toArray, List.getElem_cons_succ, List.getElem_cons_zero, List.setIfInBounds_toArray, List.set_cons_succ, List.set_cons_zero]
                go_wp2_with fail
                go_ret
                exact ⟨⟨b, rfl, hiff⟩, L3⟩
              · go_simp
                refine hK _ _ ?_
                clear hK K
                refine wpAny_ready (rs := [13]) (by kernel_rfl) (by simp) ?_
                refine AllReady.cons rfl (fun K hK => ?_) AllReady.nil
                go_simp
                go_at_call 79
                refine (CON.out _).mono ?_
                rintro e w4 ⟨rfl, hb4⟩
                have L3 := L2.trans (hb4.mono L2.size)
                have BC3 := BC2.below hb4 hgc2
                have a5 : w4.cell? ⟨gc, 1, none⟩ = some (.int .i64 v) := BC3.cell 1
                clear hb4
                refine hK _ _ ?_
                clear hK K
                refine wpAny_take (i := 16) (v := .bool b) rfl (by kernel_rfl) (by kernel_rfl) (by kernel_rfl) (fun _ _ _ h => h) (Or.inl ⟨by kernel_rfl, fun W => by first | rfl | go_simp⟩) ?_
                simp only [Act.put, List.getElem_toArray, List.getElem_cons_succ, List.getElem_cons_zero, List.setIfInBounds_toArray, List.set_cons_succ, List.set_cons_zero]
                refine wpAny_take (i := 17) (v := .bool b) rfl (by kernel_rfl) (by kernel_rfl) (by kernel_rfl) (fun _ _ _ h => h) (Or.inl ⟨by kernel_rfl, fun W => by first | rfl | go_simp⟩) ?_
                simp only [Act.put, List.getElem_toArray, List.getElem_cons_succ, List.getElem_cons_zero, List.setIfInBounds_toArray, List.set_cons_succ, List.set_cons_zero]
                refine wpAny_take (i := 18) (v := .bool b) rfl (by kernel_rfl) (by kernel_rfl) (by kernel_rfl) (fun _ _ _ h => h) (Or.inl ⟨by kernel_rfl, fun W => by first | rfl | go_simp⟩) ?_
                simp only [Act.put, List.getElem_toArray, List.getElem_cons_succ, List.getElem_cons_zero, List.setIfInBounds_toArray, List.set_cons_succ, List.set_cons_zero]
                refine wpAny_done (by kernel_rfl) ?_ _
                try simp only [List.getElem_toArray, List.getElem_cons_succ, List.getElem_cons_zero, List.setIfInBounds_toArray, List.set_cons_succ, List.set_cons_zero]
                go_wp2_with fail
                go_ret
                exact ⟨⟨b, rfl, hiff⟩, L3⟩
            · go_simp
              refine hK _ _ ?_
              clear hK K
              refine wpAny_ready (rs := [12]) (by kernel_rfl) (by simp) ?_
              refine AllReady.cons rfl (fun K hK => ?_) AllReady.nil
              go_simp
              refine hK _ _ ?_
              clear hK K
              refine wpAny_ready (rs := [13]) (by kernel_rfl) (by simp) ?_
              refine AllReady.cons rfl (fun K hK => ?_) AllReady.nil
              go_simp
              go_at_call 79
              refine (CON.out _).mono ?_
              rintro e w4 ⟨rfl, hb4⟩
              have L3 := L2.trans (hb4.mono L2.size)
              have BC3 := BC2.below hb4 hgc2
              have a5 : w4.cell? ⟨gc, 1, none⟩ = some (.int .i64 v) := BC3.cell 1
              clear hb4
              refine hK _ _ ?_
              clear hK K
              refine wpAny_take (i := 16) (v := .bool b) rfl (by kernel_rfl) (by kernel_rfl) (by kernel_rfl) (fun _ _ _ h => h) (Or.inl ⟨by kernel_rfl, fun W => by first | rfl | go_simp⟩) ?_
              simp only [Act.put, List.getElem_toArray, List.getElem_cons_succ, List.getElem_cons_zero, List.setIfInBounds_toArray, List.set_cons_succ, List.set_cons_zero]
              refine wpAny_take (i := 17) (v := .bool b) rfl (by kernel_rfl) (by kernel_rfl) (by kernel_rfl) (fun _ _ _ h => h) (Or.inl ⟨by kernel_rfl, fun W => by first | rfl | go_simp⟩) ?_
              simp only [Act.put, List.getElem_toArray, List.getElem_cons_succ, List.getElem_cons_zero, List.setIfInBounds_toArray, List.set_cons_succ, List.set_cons_zero]
              refine wpAny_take (i := 18) (v := .bool b) rfl (by kernel_rfl) (by kernel_rfl) (by kernel_rfl) (fun _ _ _ h => h) (Or.inl ⟨by kernel_rfl, fun W => by first | rfl | go_simp⟩) ?_
              simp only [Act.put, List.getElem_toArray, List.getElem_cons_succ, List.getElem_cons_zero, List.setIfInBounds_toArray, List.set_cons_succ, List.set_cons_zero]
              refine wpAny_done (by kernel_rfl) ?_ _
              try simp only [List.getElem_toArray, List.getElem_cons_succ, List.getElem_cons_zero, List.setIfInBounds_toArray, List.set_cons_succ, List.set_cons_zero]
              go_wp2_with fail
              go_ret
              exact ⟨⟨b, rfl, hiff⟩, L3⟩
          · go_simp
            refine hK _ _ ?_
            clear hK K
            refine wpAny_ready (rs := [11, 15]) (by kernel_rfl) (by simp) ?_
            refine AllReady.cons rfl (fun K hK => ?_) (AllReady.cons rfl (fun K hK => ?_) AllReady.nil)
            · go_simp
              refine hK _ _ ?_
              clear hK K
              refine wpAny_ready (rs := [13, 15]) (by kernel_rfl) (by simp) ?_
              refine AllReady.cons rfl (fun K hK => ?_) (AllReady.cons rfl (fun K hK => ?_) AllReady.nil)
              · go_simp
                go_at_call 79
                refine (CON.out _).mono ?_
                rintro e w4 ⟨rfl, hb4⟩
                have L3 := L2.trans (hb4.mono L2.size)
                have BC3 := BC2.below hb4 hgc2
                have a5 : w4.cell? ⟨gc, 1, none⟩ = some (.int .i64 v) := BC3.cell 1
                clear hb4
                refine hK _ _ ?_
                clear hK K
                refine wpAny_ready (rs := [15]) (by kernel_rfl) (by simp) ?_
                refine AllReady.cons rfl (fun K hK => ?_) AllReady.nil
                go_simp
                refine hK _ _ ?_
                clear hK K
                refine wpAny_take (i := 16) (v := .bool b) rfl (by kernel_rfl) (by kernel_rfl) (by kernel_rfl) (fun _ _ _ h => h) (Or.inl ⟨by kernel_rfl, fun W => by first | rfl | go_simp⟩) ?_
                simp only [Act.put, List.getElem_toArray, List.getElem_cons_succ, List.getElem_cons_zero, List.setIfInBounds_toArray, List.set_cons_succ, List.set_cons_zero]
                refine wpAny_take (i := 17) (v := .bool b) rfl (by kernel_rfl) (by kernel_rfl) (by kernel_rfl) (fun _ _ _ h => h) (Or.inl ⟨by kernel_rfl, fun W => by first | rfl | go_simp⟩) ?_
                simp only [Act.put, List.getElem_toArray, List.getElem_cons_succ, List.getElem_cons_zero, List.setIfInBounds_toArray, List.set_cons_succ, List.set_cons_zero]
                refine wpAny_take (i := 18) (v := .bool b) rfl (by kernel_rfl) (by kernel_rfl) (by kernel_rfl) (fun _ _ _ h => h) (Or.inl ⟨by kernel_rfl, fun W => by first | rfl | go_simp⟩) ?_
                simp only [Act.put, List.getElem_toArray, List.getElem_cons_succ, List.getElem_cons_zero, List.setIfInBounds_toArray, List.set_cons_succ, List.set_cons_zero]
                refine wpAny_done (by kernel_rfl) ?_ _
                try simp only [List.getElem_toArray, List.getElem_cons_succ, List.getElem_cons_zero, List.setIfInBounds_toArray, List.set_cons_succ, List.set_cons_zero]
                go_wp2_with fail
                go_ret
                exact ⟨⟨b, rfl, hiff⟩, L3⟩
              · go_simp
                refine hK _ _ ?_
                clear hK K
                refine wpAny_ready (rs := [13]) (by kernel_rfl) (by simp) ?_
                refine AllReady.cons rfl (fun K hK => ?_) AllReady.nil
                go_simp
                go_at_call 79
                refine (CON.out _).mono ?_
                rintro e w4 ⟨rfl, hb4⟩
                have L3 := L2.trans (hb4.mono L2.size)
                have BC3 := BC2.below hb4 hgc2
                have a5 : w4.cell? ⟨gc, 1, none⟩ = some (.int .i64 v) := BC3.cell 1
                clear hb4
                refine hK _ _ ?_
                clear hK K
                refine wpAny_take (i := 16) (v := .bool b) rfl (by kernel_rfl) (by kernel_rfl) (by kernel_rfl) (fun _ _ _ h => h) (Or.inl ⟨by kernel_rfl, fun W => by first | rfl | go_simp⟩) ?_
                simp only [Act.put, List.getElem_toArray, List.getElem_cons_succ, List.getElem_cons_zero, List.setIfInBounds_toArray, List.set_cons_succ, List.set_cons_zero]
                refine wpAny_take (i := 17) (v := .bool b) rfl (by kernel_rfl) (by kernel_rfl) (by kernel_rfl) (fun _ _ _ h => h) (Or.inl ⟨by kernel_rfl, fun W => by first | rfl | go_simp⟩) ?_
                simp only [Act.put, List.getElem_toArray, List.getElem_cons_succ, List.getElem_cons_zero, List.setIfInBounds_toArray, List.set_cons_succ, List.set_cons_zero]
                refine wpAny_take (i := 18) (v := .bool b) rfl (by kernel_rfl) (by kernel_rfl) (by kernel_rfl) (fun _ _ _ h => h) (Or.inl ⟨by kernel_rfl, fun W => by first | rfl | go_simp⟩) ?_
                simp only [Act.put, List.getElem_toArray, List.getElem_cons_succ, List.getElem_cons_zero, List.setIfInBounds_toArray, List.set_cons_succ, List.set_cons_zero]
                refine wpAny_done (by kernel_rfl) ?_ _
                try simp only [List.getElem_toArray, List.getElem_cons_succ, List.getElem_cons_zero, List.setIfInBounds_toArray, List.set_cons_succ, List.set_cons_zero]
                go_wp2_with fail
                go_ret
                exact ⟨⟨b, rfl, hiff⟩, L3⟩
            · go_simp
              refine hK _ _ ?_
              clear hK K
              refine wpAny_ready (rs := [11]) (by kernel_rfl) (by simp) ?_
              refine AllReady.cons rfl (fun K hK => ?_) AllReady.nil
              go_simp
              refine hK _ _ ?_
              clear hK K
              refine wpAny_ready (rs := [13]) (by kernel_rfl) (by simp) ?_
              refine AllReady.cons rfl (fun K hK => ?_) AllReady.nil
              go_simp
              go_at_call 79
              refine (CON.out _).mono ?_
              rintro e w4 ⟨rfl, hb4⟩
              have L3 := L2.trans (hb4.mono L2.size)
              have BC3 := BC2.below hb4 hgc2
              have a5 : w4.cell? ⟨gc, 1, none⟩ = some (.int .i64 v) := BC3.cell 1
              clear hb4
              refine hK _ _ ?_
              clear hK K
              refine wpAny_take (i := 16) (v := .bool b) rfl (by kernel_rfl) (by kernel_rfl) (by kernel_rfl) (fun _ _ _ h => h) (Or.inl ⟨by kernel_rfl, fun W => by first | rfl | go_simp⟩) ?_
              simp only [Act.put, List.getElem_toArray, List.getElem_cons_succ, List.getElem_cons_zero, List.setIfInBounds_toArray, List.set_cons_succ, List.set_cons_zero]
              refine wpAny_take (i := 17) (v := .bool b) rfl (by kernel_rfl) (by kernel_rfl) (by kernel_rfl) (fun _ _ _ h => h) (Or.inl ⟨by kernel_rfl, fun W => by first | rfl | go_simp⟩) ?_
              simp only [Act.put, List.getElem_toArray, List.getElem_cons_succ, List.getElem_cons_zero, List.setIfInBounds_toArray, List.set_cons_succ, List.set_cons_zero]
              refine wpAny_take (i := 18) (v := .bool b) rfl (by kernel_rfl) (by kernel_rfl) (by kernel_rfl) (fun _ _ _ h => h) (Or.inl ⟨by kernel_rfl, fun W => by first | rfl | go_simp⟩) ?_
              simp only [Act.put, List.getElem_toArray, List.getElem_cons_succ, List.getElem_cons_zero, List.setIfInBounds_toArray, List.set_cons_succ, List.set_cons_zero]
              refine wpAny_done (by kernel_rfl) ?_ _
              try simp only [List.getElem_toArray, List.getElem_cons_succ, List.getElem_cons_zero, List.setIfInBounds_toArray, List.set_cons_succ, List.set_cons_zero]
              go_wp2_with fail
              go_ret
              exact ⟨⟨b, rfl, hiff⟩, L3⟩
          · go_simp
            refine hK _ _ ?_
            clear hK K
            refine wpAny_ready (rs := [11, 12]) (by kernel_rfl) (by simp) ?_
            refine AllReady.cons rfl (fun K hK => ?_) (AllReady.cons rfl (fun K hK => ?_) AllReady.nil)
            · go_simp
              refine hK _ _ ?_
              clear hK K
              refine wpAny_ready (rs := [12]) (by kernel_rfl) (by simp) ?_
              refine AllReady.cons rfl (fun K hK => ?_) AllReady.nil
              go_simp
              refine hK _ _ ?_
              clear hK K
              refine wpAny_ready (rs := [13]) (by kernel_rfl) (by simp) ?_
              refine AllReady.cons rfl (fun K hK => ?_) AllReady.nil
              go_simp
              go_at_call 79
              refine (CON.out _).mono ?_
              rintro e w4 ⟨rfl, hb4⟩
              have L3 := L2.trans (hb4.mono L2.size)
              have BC3 := BC2.below hb4 hgc2
              have a5 : w4.cell? ⟨gc, 1, none⟩ = some (.int .i64 v) := BC3.cell 1
              clear hb4
              refine hK _ _ ?_
              clear hK K
              refine wpAny_take (i := 16) (v := .bool b) rfl (by kernel_rfl) (by kernel_rfl) (by kernel_rfl) (fun _ _ _ h => h) (Or.inl ⟨by kernel_rfl, fun W => by first | rfl | go_simp⟩) ?_
              simp only [Act.put, List.getElem_toArray, List.getElem_cons_succ, List.getElem_cons_zero, List.setIfInBounds_toArray, List.set_cons_succ, List.set_cons_zero]
              refine wpAny_take (i := 17) (v := .bool b) rfl (by kernel_rfl) (by kernel_rfl) (by kernel_rfl) (fun _ _ _ h => h) (Or.inl ⟨by kernel_rfl, fun W => by first | rfl | go_simp⟩) ?_
              simp only [Act.put, List.getElem_toArray, List.getElem_cons_succ, List.getElem_cons_zero, List.setIfInBounds_toArray, List.set_cons_succ, List.set_cons_zero]
              refine wpAny_take (i := 18) (v := .bool b) rfl (by kernel_rfl) (by kernel_rfl) (by kernel_rfl) (fun _ _ _ h => h) (Or.inl ⟨by kernel_rfl, fun W => by first | rfl | go_simp⟩) ?_
              simp only [Act.put, List.getElem_toArray, List.getElem_cons_succ, List.getElem_cons_zero, List.setIfInBounds_toArray, List.set_cons_succ, List.set_cons_zero]
              refine wpAny_done (by kernel_rfl) ?_ _
              try simp only [List.getElem_toArray, List.getElem_cons_succ, List.getElem_cons_zero, List.setIfInBounds_toArray, List.set_cons_succ, List.set_cons_zero]
              go_wp2_with fail
              go_ret
              exact ⟨⟨b, rfl, hiff⟩, L3⟩
            · go_simp
              refine hK _ _ ?_
              clear hK K
              refine wpAny_ready (rs := [11]) (by kernel_rfl) (by simp) ?_
              refine AllReady.cons rfl (fun K hK => ?_) AllReady.nil
              go_simp
              refine hK _ _ ?_
              clear hK K
              refine wpAny_ready (rs := [13]) (by kernel_rfl) (by simp) ?_
              refine AllReady.cons rfl (fun K hK => ?_) AllReady.nil
              go_simp
              go_at_call 79
              refine (CON.out _).mono ?_
              rintro e w4 ⟨rfl, hb4⟩
              have L3 := L2.trans (hb4.mono L2.size)
              have BC3 := BC2.below hb4 hgc2
              have a5 : w4.cell? ⟨gc, 1, none⟩ = some (.int .i64 v) := BC3.cell 1
              clear hb4
              refine hK _ _ ?_
              clear hK K
              refine wpAny_take (i := 16) (v := .bool b) rfl (by kernel_rfl) (by kernel_rfl) (by kernel_rfl) (fun _ _ _ h => h) (Or.inl ⟨by kernel_rfl, fun W => by first | rfl | go_simp⟩) ?_
              simp only [Act.put, List.getElem_toArray, List.getElem_cons_succ, List.getElem_cons_zero, List.setIfInBounds_toArray, List.set_cons_succ, List.set_cons_zero]
              refine wpAny_take (i := 17) (v := .bool b) rfl (by kernel_rfl) (by kernel_rfl) (by kernel_rfl) (fun _ _ _ h => h) (Or.inl ⟨by kernel_rfl, fun W => by first | rfl | go_simp⟩) ?_
              simp only [Act.put, List.getElem_toArray, List.getElem_cons_succ, List.getElem_cons_zero, List.setIfInBounds_toArray, List.set_cons_succ, List.set_cons_zero]
              refine wpAny_take (i := 18) (v := .bool b) rfl (by kernel_rfl) (by kernel_rfl) (by kernel_rfl) (fun _ _ _ h => h) (Or.inl ⟨by kernel_rfl, fun W => by first | rfl | go_simp⟩) ?_
              simp only [Act.put, List.getElem_toArray, List.getElem_cons_succ, List.getElem_cons_zero, List.setIfInBounds_toArray, List.set_cons_succ, List.set_cons_zero]
              refine wpAny_done (by kernel_rfl) ?_ _
              try simp only [List.getElem_toArray, List.getElem_cons_succ, List.getElem_cons_zero, List.setIfInBounds_toArray, List.set_cons_succ, List.set_cons_zero]
              go_wp2_with fail
              go_ret
              exact ⟨⟨b, rfl, hiff⟩, L3⟩
      · go_simp
        refine hK _ _ ?_
        clear hK K
        refine wpAny_ready (rs := [1]) (by kernel_rfl) (by simp) ?_
        refine AllReady.cons rfl (fun K hK => ?_) AllReady.nil
        go_simp
        refine hK _ _ ?_
        clear hK K
        refine wpAny_take (i := 4) (v := .bool true) rfl (by kernel_rfl) (by kernel_rfl) (by kernel_rfl) (fun _ _ _ h => h) (Or.inl ⟨by kernel_rfl, fun W => by first | rfl | go_simp⟩) ?_
        simp only [Act.put, List.getElem_toArray, List.getElem_cons_succ, List.getElem_cons_zero, List.setIfInBounds_toArray, List.set_cons_succ, List.set_cons_zero]
        refine wpAny_take (i := 5) (v := .bool true) rfl (by kernel_rfl) (by kernel_rfl) (by kernel_rfl) (fun _ _ _ h => h) (Or.inl ⟨by kernel_rfl, fun W => by first | rfl | go_simp⟩) ?_
        simp only [Act.put, List.getElem_toArray, List.getElem_cons_succ, List.getElem_cons_zero, List.setIfInBounds_toArray, List.set_cons_succ, List.set_cons_zero]
        refine wpAny_ready (rs := [6, 7]) (by kernel_rfl) (by simp) ?_
        refine AllReady.cons rfl (fun K hK => ?_) (AllReady.cons rfl (fun K hK => ?_) AllReady.nil)
        · go_simp
          refine hK _ _ ?_
          clear hK K
          refine wpAny_ready (rs := [7]) (by kernel_rfl) (by simp) ?_
          refine AllReady.cons rfl (fun K hK => ?_) AllReady.nil
          go_simp
          refine hK _ _ ?_
          clear hK K
          refine wpAny_ready (rs := [8]) (by kernel_rfl) (by simp) ?_
          refine AllReady.cons rfl (fun K hK => ?_) AllReady.nil
          go_simp
          go_at_call 140
          refine (CI.out _).mono ?_
          rintro e w3 ⟨rfl, hb3⟩
          have hb5 := below_undrew hb3
          have BR2 := BR.below hb5 hgr
          have BC2 := BC.below hb5 hgc
          have BN2 := BN.below hb5 hgn
          have L2 := L.trans (hb5.mono L.size)
          have a0 := BR2.c0
          have a1 := BR2.c1
          have a2 := BR2.c2
          have a3 := BN2.c0
          have a4 : w3.cell? ⟨gc, 1, none⟩ = some (.int .i64 v) := BC2.cell 1
          have hgr2 := BR2.lt
          have hgc2 := BC2.lt
          clear hb3 hb5
          refine hK _ _ ?_
          clear hK K
          refine wpAny_take (i := 9) (v := .bool true) rfl (by kernel_rfl) (by kernel_rfl) (by kernel_rfl) (fun _ _ _ h => h) (Or.inl ⟨by kernel_rfl, fun W => by first | rfl | go_simp⟩) ?_
          simp only [Act.put, List.getElem_toArray, List.getElem_cons_succ, List.getElem_cons_zero, List.setIfInBounds_toArray, List.set_cons_succ, List.set_cons_zero]
          refine wpAny_take (i := 10) (v := .bool true) rfl (by kernel_rfl) (by kernel_rfl) (by kernel_rfl) (fun _ _ _ h => h) (Or.inl ⟨by kernel_rfl, fun W => by first | rfl | go_simp⟩) ?_
          simp only [Act.put, List.getElem_toArray, List.getElem_cons_succ, List.getElem_cons_zero, List.setIfInBounds_toArray, List.set_cons_succ, List.set_cons_zero]
          refine wpAny_take (i := 14) (v := .pointer (some ⟨gc, 1, none⟩)) rfl (by kernel_rfl) (by kernel_rfl) (by kernel_rfl) (fun _ _ _ h => h) (Or.inl ⟨by kernel_rfl, fun W => by first | rfl | go_simp⟩) ?_
          simp only [Act.put, List.getElem_toArray, List.getElem_cons_succ, List.getElem_cons_zero, List.setIfInBounds_toArray, List.set_cons_succ, List.set_cons_zero]
          refine wpAny_ready (rs := [11, 12, 15]) (by kernel_rfl) (by simp) ?_
          refine AllReady.cons rfl (fun K hK => ?_) (AllReady.cons rfl (fun K hK => ?_) (AllReady.cons rfl (fun K hK => ?_) AllReady.nil))
          · go_simp
            refine hK _ _ ?_
            clear hK K
            refine wpAny_ready (rs := [12, 15]) (by kernel_rfl) (by simp) ?_
            refine AllReady.cons rfl (fun K hK => ?_) (AllReady.cons rfl (fun K hK => ?_) AllReady.nil)
            · go_simp
              refine hK _ _ ?_
              clear hK K
              refine wpAny_ready (rs := [13, 15]) (by kernel_rfl) (by simp) ?_
              refine AllReady.cons rfl (fun K hK => ?_) (AllReady.cons rfl (fun K hK => ?_) AllReady.nil)
              · go_simp
                go_at_call 79
                refine (CON.out _).mono ?_
                rintro e w4 ⟨rfl, hb4⟩
                have L3 := L2.trans (hb4.mono L2.size)
                have BC3 := BC2.below hb4 hgc2
                have a5 : w4.cell? ⟨gc, 1, none⟩ = some (.int .i64 v) := BC3.cell 1
                clear hb4
                refine hK _ _ ?_
                clear hK K
                refine wpAny_ready (rs := [15]) (by kernel_rfl) (by simp) ?_
                refine AllReady.cons rfl (fun K hK => ?_) AllReady.nil
                go_simp
                refine hK _ _ ?_
                clear hK K
                refine wpAny_take (i := 16) (v := .bool b) rfl (by kernel_rfl) (by kernel_rfl) (by kernel_rfl) (fun _ _ _ h => h) (Or.inl ⟨by kernel_rfl, fun W => by first | rfl | go_simp⟩) ?_
                simp only [Act.put, List.getElem_toArray, List.getElem_cons_succ, List.getElem_cons_zero, List.setIfInBounds_toArray, List.set_cons_succ, List.set_cons_zero]
                refine wpAny_take (i := 17) (v := .bool b) rfl (by kernel_rfl) (by kernel_rfl) (by kernel_rfl) (fun _ _ _ h => h) (Or.inl ⟨by kernel_rfl, fun W => by first | rfl | go_simp⟩) ?_
                simp only [Act.put, List.getElem_toArray, List.getElem_cons_succ, List.getElem_cons_zero, List.setIfInBounds_toArray, List.set_cons_succ, List.set_cons_zero]
                refine wpAny_take (i := 18) (v := .bool b) rfl (by kernel_rfl) (by kernel_rfl) (by kernel_rfl) (fun _ _ _ h => h) (Or.inl ⟨by kernel_rfl, fun W => by first | rfl | go_simp⟩) ?_
                simp only [Act.put, List.getElem_toArray, List.getElem_cons_succ, List.getElem_cons_zero, List.setIfInBounds_toArray, List.set_cons_succ, List.set_cons_zero]
                refine wpAny_done (by kernel_rfl) ?_ _
                try simp only [List.getElem_toArray, List.getElem_cons_succ, List.getElem_cons_zero, List.setIfInBounds_toArray, List.set_cons_succ, List.set_cons_zero]
                go_wp2_with fail
                go_ret
                exact ⟨⟨b, rfl, hiff⟩, L3⟩
              · go_simp
                refine hK _ _ ?_
                clear hK K
                refine wpAny_ready (rs := [13]) (by kernel_rfl) (by simp) ?_
                refine AllReady.cons rfl (fun K hK => ?_) AllReady.nil
                go_simp
                go_at_call 79
                refine (CON.out _).mono ?_
                rintro e w4 ⟨rfl, hb4⟩
                have L3 := L2.trans (hb4.mono L2.size)
                have BC3 := BC2.below hb4 hgc2
                have a5 : w4.cell? ⟨gc, 1, none⟩ = some (.int .i64 v) := BC3.cell 1
                clear hb4
                refine hK _ _ ?_
                clear hK K
                refine wpAny_take (i := 16) (v := .bool b) rfl (by kernel_rfl) (by kernel_rfl) (by kernel_rfl) (fun _ _ _ h => h) (Or.inl ⟨by kernel_rfl, fun W => by first | rfl | go_simp⟩) ?_
                simp only [Act.put, List.getElem_toArray, List.getElem_cons_succ, List.getElem_cons_zero, List.setIfInBounds_toArray, List.set_cons_succ, List.set_cons_zero]
                refine wpAny_take (i := 17) (v := .bool b) rfl (by kernel_rfl) (by kernel_rfl) (by kernel_rfl) (fun _ _ _ h => h) (Or.inl ⟨by kernel_rfl, fun W => by first | rfl | go_simp⟩) ?_
                simp only [Act.put, List.getElem_toArray, List.getElem_cons_succ, List.getElem_cons_zero, List.setIfInBounds_toArray, List.set_cons_succ, List.set_cons_zero]
                refine wpAny_take (i := 18) (v := .bool b) rfl (by kernel_rfl) (by kernel_rfl) (by kernel_rfl) (fun _ _ _ h => h) (Or.inl ⟨by kernel_rfl, fun W => by first | rfl | go_simp⟩) ?_
                simp only [Act.put, List.getElem_toArray, List.getElem_cons_succ, List.getElem_cons_zero, List.setIfInBounds_toArray, List.set_cons_succ, List.set_cons_zero]
                refine wpAny_done (by kernel_rfl) ?_ _
                try simp only [List.getElem_toArray, List.getElem_cons_succ, List.getElem_cons_zero, List.setIfInBounds_toArray, List.set_cons_succ, List.set_cons_zero]
                go_wp2_with fail
                go_ret
                exact ⟨⟨b, rfl, hiff⟩, L3⟩
            · go_simp
              refine hK _ _ ?_
              clear hK K
              refine wpAny_ready (rs := [12]) (by kernel_rfl) (by simp) ?_
              refine AllReady.cons rfl (fun K hK => ?_) AllReady.nil
              go_simp
              refine hK _ _ ?_
              clear hK K
              refine wpAny_ready (rs := [13]) (by kernel_rfl) (by simp) ?_
              refine AllReady.cons rfl (fun K hK => ?_) AllReady.nil
              go_simp
              go_at_call 79
              refine (CON.out _).mono ?_
              rintro e w4 ⟨rfl, hb4⟩
              have L3 := L2.trans (hb4.mono L2.size)
              have BC3 := BC2.below hb4 hgc2
              have a5 : w4.cell? ⟨gc, 1, none⟩ = some (.int .i64 v) := BC3.cell 1
              clear hb4
              refine hK _ _ ?_
              clear hK K
              refine wpAny_take (i := 16) (v := .bool b) rfl (by kernel_rfl) (by kernel_rfl) (by kernel_rfl) (fun _ _ _ h => h) (Or.inl ⟨by kernel_rfl, fun W => by first | rfl | go_simp⟩) ?_
              simp only [Act.put, List.getElem_toArray, List.getElem_cons_succ, List.getElem_cons_zero, List.setIfInBounds_toArray, List.set_cons_succ, List.set_cons_zero]
              refine wpAny_take (i := 17) (v := .bool b) rfl (by kernel_rfl) (by kernel_rfl) (by kernel_rfl) (fun _ _ _ h => h) (Or.inl ⟨by kernel_rfl, fun W => by first | rfl | go_simp⟩) ?_
              simp only [Act.put, List.getElem_toArray, List.getElem_cons_succ, List.getElem_cons_zero, List.setIfInBounds_toArray, List.set_cons_succ, List.set_cons_zero]
              refine wpAny_take (i := 18) (v := .bool b) rfl (by kernel_rfl) (by kernel_rfl) (by kernel_rfl) (fun _ _ _ h => h) (Or.inl ⟨by kernel_rfl, fun W => by first | rfl | go_simp⟩) ?_
              simp only [Act.put, List.getElem_toArray, List.getElem_cons_succ, List.getElem_cons_zero, List.setIfInBounds_toArray, List.set_cons_succ, List.set_cons_zero]
              refine wpAny_done (by kernel_rfl) ?_ _
              try simp only [List.getElem_toArray, List.getElem_cons_succ, List.getElem_cons_zero, List.setIfInBounds_toArray, List.set_cons_succ, List.set_cons_zero]
              go_wp2_with fail
              go_ret
              exact ⟨⟨b, rfl, hiff⟩, L3⟩
          · go_simp
            refine hK _ _ ?_
            clear hK K
            refine wpAny_ready (rs := [11, 15]) (by kernel_rfl) (by simp) ?_
            refine AllReady.cons rfl (fun K hK => ?_) (AllReady.cons rfl (fun K hK => ?_) AllReady.nil)
            · go_simp
              refine hK _ _ ?_
              clear hK K
              refine wpAny_ready (rs := [13, 15]) (by kernel_rfl) (by simp) ?_
              refine AllReady.cons rfl (fun K hK => ?_) (AllReady.cons rfl (fun K hK => ?_) AllReady.nil)
              · go_simp
                go_at_call 79
                refine (CON.out _).mono ?_
                rintro e w4 ⟨rfl, hb4⟩
                have L3 := L2.trans (hb4.mono L2.size)
                have BC3 := BC2.below hb4 hgc2
                have a5 : w4.cell? ⟨gc, 1, none⟩ = some (.int .i64 v) := BC3.cell 1
                clear hb4
                refine hK _ _ ?_
                clear hK K
                refine wpAny_ready (rs := [15]) (by kernel_rfl) (by simp) ?_
                refine AllReady.cons rfl (fun K hK => ?_) AllReady.nil
                go_simp
                refine hK _ _ ?_
                clear hK K
                refine wpAny_take (i := 16) (v := .bool b) rfl (by kernel_rfl) (by kernel_rfl) (by kernel_rfl) (fun _ _ _ h => h) (Or.inl ⟨by kernel_rfl, fun W => by first | rfl | go_simp⟩) ?_
                simp only [Act.put, List.getElem_toArray, List.getElem_cons_succ, List.getElem_cons_zero, List.setIfInBounds_toArray, List.set_cons_succ, List.set_cons_zero]
                refine wpAny_take (i := 17) (v := .bool b) rfl (by kernel_rfl) (by kernel_rfl) (by kernel_rfl) (fun _ _ _ h => h) (Or.inl ⟨by kernel_rfl, fun W => by first | rfl | go_simp⟩) ?_
                simp only [Act.put, List.getElem_toArray, List.getElem_cons_succ, List.getElem_cons_zero, List.setIfInBounds_toArray, List.set_cons_succ, List.set_cons_zero]
                refine wpAny_take (i := 18) (v := .bool b) rfl (by kernel_rfl) (by kernel_rfl) (by kernel_rfl) (fun _ _ _ h => h) (Or.inl ⟨by kernel_rfl, fun W => by first | rfl | go_simp⟩) ?_
                simp only [Act.put, List.getElem_toArray, List.getElem_cons_succ, List.getElem_cons_zero, List.setIfInBounds_toArray, List.set_cons_succ, List.set_cons_zero]
                refine wpAny_done (by kernel_rfl) ?_ _
                try simp only [List.getElem_toArray, List.getElem_cons_succ, List.getElem_cons_zero, List.setIfInBounds_toArray, List.set_cons_succ, List.set_cons_zero]
                go_wp2_with fail
                go_ret
                exact ⟨⟨b, rfl, hiff⟩, L3⟩
              · go_simp
                refine hK _ _ ?_
                clear hK K
                refine wpAny_ready (rs := [13]) (by kernel_rfl) (by simp) ?_
                refine AllReady.cons rfl (fun K hK => ?_) AllReady.nil
                go_simp
                go_at_call 79
                refine (CON.out _).mono ?_
                rintro e w4 ⟨rfl, hb4⟩
                have L3 := L2.trans (hb4.mono L2.size)
                have BC3 := BC2.below hb4 hgc2
                have a5 : w4.cell? ⟨gc, 1, none⟩ = some (.int .i64 v) := BC3.cell 1
                clear hb4
                refine hK _ _ ?_
                clear hK K
                refine wpAny_take (i := 16) (v := .bool b) rfl (by kernel_rfl) (by kernel_rfl) (by kernel_rfl) (fun _ _ _ h => h) (Or.inl ⟨by kernel_rfl, fun W => by first | rfl | go_simp⟩) ?_
                simp only [Act.put, List.getElem_toArray, List.getElem_cons_succ, List.getElem_cons_zero, List.setIfInBounds_toArray, List.set_cons_succ, List.set_cons_zero]
                refine wpAny_take (i := 17) (v := .bool b) rfl (by kernel_rfl) (by kernel_rfl) (by kernel_rfl) (fun _ _ _ h => h) (Or.inl ⟨by kernel_rfl, fun W => by first | rfl | go_simp⟩) ?_
                simp only [Act.put, List.getElem_toArray, List.getElem_cons_succ, List.getElem_cons_zero, List.setIfInBounds_toArray, List.set_cons_succ, List.set_cons_zero]
                refine wpAny_take (i := 18) (v := .bool b) rfl (by kernel_rfl) (by kernel_rfl) (by kernel_rfl) (fun _ _ _ h => h) (Or.inl ⟨by kernel_rfl, fun W => by first | rfl | go_simp⟩) ?_
                simp only [Act.put, List.getElem_toArray, List.getElem_cons_succ, List.getElem_cons_zero, List.setIfInBounds_toArray, List.set_cons_succ, List.set_cons_zero]
                refine wpAny_done (by kernel_rfl) ?_ _
                try simp only [List.getElem_toArray, List.getElem_cons_succ, List.getElem_cons_zero, List.setIfInBounds_toArray, List.set_cons_succ, List.set_cons_zero]
                go_wp2_with fail
                go_ret
                exact ⟨⟨b, rfl, hiff⟩, L3⟩
            · go_simp
              refine hK _ _ ?_
              clear hK K
              refine wpAny_ready (rs := [11]) (by kernel_rfl) (by simp) ?_
              refine AllReady.cons rfl (fun K hK => ?_) AllReady.nil
              go_simp
              refine hK _ _ ?_
              clear hK K
              refine wpAny_ready (rs := [13]) (by kernel_rfl) (by simp) ?_
              refine AllReady.cons rfl (fun K hK => ?_) AllReady.nil
              go_simp
              go_at_call 79
              refine (CON.out _).mono ?_
              rintro e w4 ⟨rfl, hb4⟩
              have L3 := L2.trans (hb4.mono L2.size)
              have BC3 := BC2.below hb4 hgc2
              have a5 : w4.cell? ⟨gc, 1, none⟩ = some (.int .i64 v) := BC3.cell 1
              clear hb4
              refine hK _ _ ?_
              clear hK K
              refine wpAny_take (i := 16) (v := .bool b) rfl (by kernel_rfl) (by kernel_rfl) (by kernel_rfl) (fun _ _ _ h => h) (Or.inl ⟨by kernel_rfl, fun W => by first | rfl | go_simp⟩) ?_
              simp only [Act.put, List.getElem_toArray, List.getElem_cons_succ, List.getElem_cons_zero, List.setIfInBounds_toArray, List.set_cons_succ, List.set_cons_zero]
              refine wpAny_take (i := 17) (v := .bool b) rfl (by kernel_rfl) (by kernel_rfl) (by kernel_rfl) (fun _ _ _ h => h) (Or.inl ⟨by kernel_rfl, fun W => by first | rfl | go_simp⟩) ?_
              simp only [Act.put, List.getElem_toArray, List.getElem_cons_succ, List.getElem_cons_zero, List.setIfInBounds_toArray, List.set_cons_succ, List.set_cons_zero]
              refine wpAny_take (i := 18) (v := .bool b) rfl (by kernel_rfl) (by kernel_rfl) (by kernel_rfl) (fun _ _ _ h => h) (Or.inl ⟨by kernel_rfl, fun W => by first | rfl | go_simp⟩) ?_
              simp only [Act.put, List.getElem_toArray, List.getElem_cons_succ, List.getElem_cons_zero, List.setIfInBounds_toArray, List.set_cons_succ, List.set_cons_zero]
              refine wpAny_done (by kernel_rfl) ?_ _
              try simp only [List.getElem_toArray, List.getElem_cons_succ, List.getElem_cons_zero, List.setIfInBounds_toArray, List.set_cons_succ, List.set_cons_zero]
              go_wp2_with fail
              go_ret
              exact ⟨⟨b, rfl, hiff⟩, L3⟩
          · go_simp
            refine hK _ _ ?_
            clear hK K
            refine wpAny_ready (rs := [11, 12]) (by kernel_rfl) (by simp) ?_
            refine AllReady.cons rfl (fun K hK => ?_) (AllReady.cons rfl (fun K hK => ?_) AllReady.nil)
            · go_simp
              refine hK _ _ ?_
              clear hK K
              refine wpAny_ready (rs := [12]) (by kernel_rfl) (by simp) ?_
              refine AllReady.cons rfl (fun K hK => ?_) AllReady.nil
              go_simp
              refine hK _ _ ?_
              clear hK K
              refine wpAny_ready (rs := [13]) (by kernel_rfl) (by simp) ?_
              refine AllReady.cons rfl (fun K hK => ?_) AllReady.nil
              go_simp
              go_at_call 79
              refine (CON.out _).mono ?_
              rintro e w4 ⟨rfl, hb4⟩
              have L3 := L2.trans (hb4.mono L2.size)
              have BC3 := BC2.below hb4 hgc2
              have a5 : w4.cell? ⟨gc, 1, none⟩ = some (.int .i64 v) := BC3.cell 1
              clear hb4
              refine hK _ _ ?_
              clear hK K
              refine wpAny_take (i := 16) (v := .bool b) rfl (by kernel_rfl) (by kernel_rfl) (by kernel_rfl) (fun _ _ _ h => h) (Or.inl ⟨by kernel_rfl, fun W => by first | rfl | go_simp⟩) ?_
              simp only [Act.put, List.getElem_toArray, List.getElem_cons_succ, List.getElem_cons_zero, List.setIfInBounds_toArray, List.set_cons_succ, List.set_cons_zero]
              refine wpAny_take (i := 17) (v := .bool b) rfl (by kernel_rfl) (by kernel_rfl) (by kernel_rfl) (fun _ _ _ h => h) (Or.inl ⟨by kernel_rfl, fun W => by first | rfl | go_simp⟩) ?_
              simp only [Act.put, List.getElem_toArray, List.getElem_cons_succ, List.getElem_cons_zero, List.setIfInBounds_toArray, List.set_cons_succ, List.set_cons_zero]
              refine wpAny_take (i := 18) (v := .bool b) rfl (by kernel_rfl) (by kernel_rfl) (by kernel_rfl) (fun _ _ _ h => h) (Or.inl ⟨by kernel_rfl, fun W => by first | rfl | go_simp⟩) ?_
              simp only [Act.put, List.getElem_toArray, List.getElem_cons_succ, List.getElem_cons_zero, List.setIfInBounds_toArray, List.set_cons_succ, List.set_cons_zero]
              refine wpAny_done (by kernel_rfl) ?_ _
              try simp only [List.getElem_toArray, List.getElem_cons_succ, List.getElem_cons_zero, List.setIfInBounds_toArray, List.set_cons_succ, List.set_cons_zero]
              go_wp2_with fail
              go_ret
              exact ⟨⟨b, rfl, hiff⟩, L3⟩
            · go_simp
              refine hK _ _ ?_
              clear hK K
              refine wpAny_ready (rs := [11]) (by kernel_rfl) (by simp) ?_
              refine AllReady.cons rfl (fun K hK => ?_) AllReady.nil
              go_simp
              refine hK _ _ ?_
              clear hK K
              refine wpAny_ready (rs := [13]) (by kernel_rfl) (by simp) ?_
              refine AllReady.cons rfl (fun K hK => ?_) AllReady.nil
              go_simp
              go_at_call 79
              refine (CON.out _).mono ?_
              rintro e w4 ⟨rfl, hb4⟩
              have L3 := L2.trans (hb4.mono L2.size)
              have BC3 := BC2.below hb4 hgc2
              have a5 : w4.cell? ⟨gc, 1, none⟩ = some (.int .i64 v) := BC3.cell 1
              clear hb4
              refine hK _ _ ?_
              clear hK K
              refine wpAny_take (i := 16) (v := .bool b) rfl (by kernel_rfl) (by kernel_rfl) (by kernel_rfl) (fun _ _ _ h => h) (Or.inl ⟨by kernel_rfl, fun W => by first | rfl | go_simp⟩) ?_
              simp only [Act.put, List.getElem_toArray, List.getElem_cons_succ, List.getElem_cons_zero, List.setIfInBounds_toArray, List.set_cons_succ, List.set_cons_zero]
              refine wpAny_take (i := 17) (v := .bool b) rfl (by kernel_rfl) (by kernel_rfl) (by kernel_rfl) (fun _ _ _ h => h) (Or.inl ⟨by kernel_rfl, fun W => by first | rfl | go_simp⟩) ?_
              simp only [Act.put, List.getElem_toArray, List.getElem_cons_succ, List.getElem_cons_zero, List.setIfInBounds_toArray, List.set_cons_succ, List.set_cons_zero]
              refine wpAny_take (i := 18) (v := .bool b) rfl (by kernel_rfl) (by kernel_rfl) (by kernel_rfl) (fun _ _ _ h => h) (Or.inl ⟨by kernel_rfl, fun W => by first | rfl | go_simp⟩) ?_
              simp only [Act.put, List.getElem_toArray, List.getElem_cons_succ, List.getElem_cons_zero, List.setIfInBounds_toArray, List.set_cons_succ, List.set_cons_zero]
              refine wpAny_done (by kernel_rfl) ?_ _
              try simp only [List.getElem_toArray, List.getElem_cons_succ, List.getElem_cons_zero, List.setIfInBounds_toArray, List.set_cons_succ, List.set_cons_zero]
              go_wp2_with fail
              go_ret
              exact ⟨⟨b, rfl, hiff⟩, L3⟩
        · go_simp
          refine hK _ _ ?_
          clear hK K
          refine wpAny_ready (rs := [6]) (by kernel_rfl) (by simp) ?_
          refine AllReady.cons rfl (fun K hK => ?_) AllReady.nil
          go_simp
          refine hK _ _ ?_
          clear hK K
          refine wpAny_ready (rs := [8]) (by kernel_rfl) (by simp) ?_
          refine AllReady.cons rfl (fun K hK => ?_) AllReady.nil
          go_simp
          go_at_call 140
          refine (CI.out _).mono ?_
          rintro e w3 ⟨rfl, hb3⟩
          have hb5 := below_undrew hb3
          have BR2 := BR.below hb5 hgr
          have BC2 := BC.below hb5 hgc
          have BN2 := BN.below hb5 hgn
          have L2 := L.trans (hb5.mono L.size)
          have a0 := BR2.c0
          have a1 := BR2.c1
          have a2 := BR2.c2
          have a3 := BN2.c0
          have a4 : w3.cell? ⟨gc, 1, none⟩ = some (.int .i64 v) := BC2.cell 1
          have hgr2 := BR2.lt
          have hgc2 := BC2.lt
          clear hb3 hb5
          refine hK _ _ ?_
          clear hK K
          refine wpAny_take (i := 9) (v := .bool true) rfl (by kernel_rfl) (by kernel_rfl) (by kernel_rfl) (fun _ _ _ h => h) (Or.inl ⟨by kernel_rfl, fun W => by first | rfl | go_simp⟩) ?_
          simp only [Act.put, List.getElem_toArray, List.getElem_cons_succ, List.getElem_cons_zero, List.setIfInBounds_toArray, List.set_cons_succ, List.set_cons_zero]
          refine wpAny_take (i := 10) (v := .bool true) rfl (by kernel_rfl) (by kernel_rfl) (by kernel_rfl) (fun _ _ _ h => h) (Or.inl ⟨by kernel_rfl, fun W => by first | rfl | go_simp⟩) ?_
          simp only [Act.put, List.getElem_toArray, List.getElem_cons_succ, List.getElem_cons_zero, List.setIfInBounds_toArray, List.set_cons_succ, List.set_cons_zero]
          refine wpAny_take (i := 14) (v := .pointer (some ⟨gc, 1, none⟩)) rfl (by kernel_rfl) (by kernel_rfl) (by kernel_rfl) (fun _ _ _ h => h) (Or.inl ⟨by kernel_rfl, fun W => by first | rfl | go_simp⟩) ?_
          simp only [Act.put, List.getElem_toArray, List.getElem_cons_succ, List.getElem_cons_zero, List.setIfInBounds_toArray, List.set_cons_succ, List.set_cons_zero]
          refine wpAny_ready (rs := [11, 12, 15]) (by kernel_rfl) (by simp) ?_
          refine AllReady.cons rfl (fun K hK => ?_) (AllReady.cons rfl (fun K hK => ?_) (AllReady.cons rfl (fun K hK => ?_) AllReady.nil))
          · go_simp
            refine hK _ _ ?_
            clear hK K
            refine wpAny_ready (rs := [12, 15]) (by kernel_rfl) (by simp) ?_
            refine AllReady.cons rfl (fun K hK => ?_) (AllReady.cons rfl (fun K hK => ?_) AllReady.nil)
            · go_simp
              refine hK _ _ ?_
              clear hK K
              refine wpAny_ready (rs := [13, 15]) (by kernel_rfl) (by simp) ?_
              refine AllReady.cons rfl (fun K hK => ?_) (AllReady.cons rfl (fun K hK => ?_) AllReady.nil)
              · go_simp
                go_at_call 79
                refine (CON.out _).mono ?_
                rintro e w4 ⟨rfl, hb4⟩
                have L3 := L2.trans (hb4.mono L2.size)
                have BC3 := BC2.below hb4 hgc2
                have a5 : w4.cell? ⟨gc, 1, none⟩ = some (.int .i64 v) := BC3.cell 1
                clear hb4
                refine hK _ _ ?_
                clear hK K
                refine wpAny_ready (rs := [15]) (by kernel_rfl) (by simp) ?_
                refine AllReady.cons rfl (fun K hK => ?_) AllReady.nil
                go_simp
                refine hK _ _ ?_
                clear hK K
                refine wpAny_take (i := 16) (v := .bool b) rfl (by kernel_rfl) (by kernel_rfl) (by kernel_rfl) (fun _ _ _ h => h) (Or.inl ⟨by kernel_rfl, fun W => by first | rfl | go_simp⟩) ?_
                simp only [Act.put, List.getElem_toArray, List.getElem_cons_succ, List.getElem_cons_zero, List.setIfInBounds_toArray, List.set_cons_succ, List.set_cons_zero]
                refine wpAny_take (i := 17) (v := .bool b) rfl (by kernel_rfl) (by kernel_rfl) (by kernel_rfl) (fun _ _ _ h => h) (Or.inl ⟨by kernel_rfl, fun W => by first | rfl | go_simp⟩) ?_
                simp only [Act.put, List.getElem_toArray, List.getElem_cons_succ, List.getElem_cons_zero, List.setIfInBounds_toArray, List.set_cons_succ, List.set_cons_zero]
                refine wpAny_take (i := 18) (v := .bool b) rfl (by kernel_rfl) (by kernel_rfl) (by kernel_rfl) (fun _ _ _ h => h) (Or.inl ⟨by kernel_rfl, fun W => by first | rfl | go_simp⟩) ?_
                simp only [Act.put, List.getElem_toArray, List.getElem_cons_succ, List.getElem_cons_zero, List.setIfInBounds_toArray, List.set_cons_succ, List.set_cons_zero]
                refine wpAny_done (by kernel_rfl) ?_ _
                try simp only [List.getElem_toArray, List.getElem_cons_succ, List.getElem_cons_zero, List.setIfInBounds_toArray, List.set_cons_succ, List.set_cons_zero]
                go_wp2_with fail
                go_ret
                exact ⟨⟨b, rfl, hiff⟩, L3⟩
              · go_simp
                refine hK _ _ ?_
                clear hK K
                refine wpAny_ready (rs := [13]) (by kernel_rfl) (by simp) ?_
                refine AllReady.cons rfl (fun K hK => ?_) AllReady.nil
                go_simp
                go_at_call 79
                refine (CON.out _).mono ?_
                rintro e w4 ⟨rfl, hb4⟩
                have L3 := L2.trans (hb4.mono L2.size)
                have BC3 := BC2.below hb4 hgc2
                have a5 : w4.cell? ⟨gc, 1, none⟩ = some (.int .i64 v) := BC3.cell 1
                clear hb4
                refine hK _ _ ?_
                clear hK K
                refine wpAny_take (i := 16) (v := .bool b) rfl (by kernel_rfl) (by kernel_rfl) (by kernel_rfl) (fun _ _ _ h => h) (Or.inl ⟨by kernel_rfl, fun W => by first | rfl | go_simp⟩) ?_
                simp only [Act.put, List.getElem_toArray, List.getElem_cons_succ, List.getElem_cons_zero, List.setIfInBounds_toArray, List.set_cons_succ, List.set_cons_zero]
                refine wpAny_take (i := 17) (v := .bool b) rfl (by kernel_rfl) (by kernel_rfl) (by kernel_rfl) (fun _ _ _ h => h) (Or.inl ⟨by kernel_rfl, fun W => by first | rfl | go_simp⟩) ?_
                simp only [Act.put, List.getElem_toArray, List.getElem_cons_succ, List.getElem_cons_zero, List.setIfInBounds_toArray, List.set_cons_succ, List.set_cons_zero]
                refine wpAny_take (i := 18) (v := .bool b) rfl (by kernel_rfl) (by kernel_rfl) (by kernel_rfl) (fun _ _ _ h => h) (Or.inl ⟨by kernel_rfl, fun W => by first | rfl | go_simp⟩) ?_
                simp only [Act.put, List.getElem_toArray, List.getElem_cons_succ, List.getElem_cons_zero, List.setIfInBounds_toArray, List.set_cons_succ, List.set_cons_zero]
                refine wpAny_done (by kernel_rfl) ?_ _
                try simp only [List.getElem_toArray, List.getElem_cons_succ, List.getElem_cons_zero, List.setIfInBounds_toArray, List.set_cons_succ, List.set_cons_zero]
                go_wp2_with fail
                go_ret
                exact ⟨⟨b, rfl, hiff⟩, L3⟩
            · go_simp
              refine hK _ _ ?_
              clear hK K
              refine wpAny_ready (rs := [12]) (by kernel_rfl) (by simp) ?_
              refine AllReady.cons rfl (fun K hK => ?_) AllReady.nil
              go_simp
              refine hK _ _ ?_
              clear hK K
              refine wpAny_ready (rs := [13]) (by kernel_rfl) (by simp) ?_
              refine AllReady.cons rfl (fun K hK => ?_) AllReady.nil
              go_simp
              go_at_call 79
              refine (CON.out _).mono ?_
              rintro e w4 ⟨rfl, hb4⟩
              have L3 := L2.trans (hb4.mono L2.size)
              have BC3 := BC2.below hb4 hgc2
              have a5 : w4.cell? ⟨gc, 1, none⟩ = some (.int .i64 v) := BC3.cell 1
              clear hb4
              refine hK _ _ ?_
              clear hK K
              refine wpAny_take (i := 16) (v := .bool b) rfl (by kernel_rfl) (by kernel_rfl) (by kernel_rfl) (fun _ _ _ h => h) (Or.inl ⟨by kernel_rfl, fun W => by first | rfl | go_simp⟩) ?_
              simp only [Act.put, List.getElem_toArray, List.getElem_cons_succ, List.getElem_cons_zero, List.setIfInBounds_toArray, List.set_cons_succ, List.set_cons_zero]
              refine wpAny_take (i := 17) (v := .bool b) rfl (by kernel_rfl) (by kernel_rfl) (by kernel_rfl) (fun _ _ _ h => h) (Or.inl ⟨by kernel_rfl, fun W => by first | rfl | go_simp⟩) ?_
              simp only [Act.put, List.getElem_toArray, List.getElem_cons_succ, List.getElem_cons_zero, List.setIfInBounds_toArray, List.set_cons_succ, List.set_cons_zero]
              refine wpAny_take (i := 18) (v := .bool b) rfl (by kernel_rfl) (by kernel_rfl) (by kernel_rfl) (fun _ _ _ h => h) (Or.inl ⟨by kernel_rfl, fun W => by first | rfl | go_simp⟩) ?_
              simp only [Act.put, List.getElem_toArray, List.getElem_cons_succ, List.getElem_cons_zero, List.setIfInBounds_toArray, List.set_cons_succ, List.set_cons_zero]
              refine wpAny_done (by kernel_rfl) ?_ _
              try simp only [List.getElem_toArray, List.getElem_cons_succ, List.getElem_cons_zero, List.setIfInBounds_toArray, List.set_cons_succ, List.set_cons_zero]
              go_wp2_with fail
              go_ret
              exact ⟨⟨b, rfl, hiff⟩, L3⟩
          · go_simp
            refine hK _ _ ?_
            clear hK K
            refine wpAny_ready (rs := [11, 15]) (by kernel_rfl) (by simp) ?_
            refine AllReady.cons rfl (fun K hK => ?_) (AllReady.cons rfl (fun K hK => ?_) AllReady.nil)
            · go_simp
              refine hK _ _ ?_
              clear hK K
              refine wpAny_ready (rs := [13, 15]) (by kernel_rfl) (by simp) ?_
              refine AllReady.cons rfl (fun K hK => ?_) (AllReady.cons rfl (fun K hK => ?_) AllReady.nil)
              · go_simp
                go_at_call 79
                refine (CON.out _).mono ?_
                rintro e w4 ⟨rfl, hb4⟩
                have L3 := L2.trans (hb4.mono L2.size)
                have BC3 := BC2.below hb4 hgc2
                have a5 : w4.cell? ⟨gc, 1, none⟩ = some (.int .i64 v) := BC3.cell 1
                clear hb4
                refine hK _ _ ?_
                clear hK K
                refine wpAny_ready (rs := [15]) (by kernel_rfl) (by simp) ?_
                refine AllReady.cons rfl (fun K hK => ?_) AllReady.nil
                go_simp
                refine hK _ _ ?_
                clear hK K
                refine wpAny_take (i := 16) (v := .bool b) rfl (by kernel_rfl) (by kernel_rfl) (by kernel_rfl) (fun _ _ _ h => h) (Or.inl ⟨by kernel_rfl, fun W => by first | rfl | go_simp⟩) ?_
                simp only [Act.put, List.getElem_toArray, List.getElem_cons_succ, List.getElem_cons_zero, List.setIfInBounds_toArray, List.set_cons_succ, List.set_cons_zero]
                refine wpAny_take (i := 17) (v := .bool b) rfl (by kernel_rfl) (by kernel_rfl) (by kernel_rfl) (fun _ _ _ h => h) (Or.inl ⟨by kernel_rfl, fun W => by first | rfl | go_simp⟩) ?_
                simp only [Act.put, List.getElem_toArray, List.getElem_cons_succ, List.getElem_cons_zero, List.setIfInBounds_toArray, List.set_cons_succ, List.set_cons_zero]
                refine wpAny_take (i := 18) (v := .bool b) rfl (by kernel_rfl) (by kernel_rfl) (by kernel_rfl) (fun _ _ _ h => h) (Or.inl ⟨by kernel_rfl, fun W => by first | rfl | go_simp⟩) ?_
                simp only [Act.put, List.getElem_toArray, List.getElem_cons_succ, List.getElem_cons_zero, List.setIfInBounds_toArray, List.set_cons_succ, List.set_cons_zero]
                refine wpAny_done (by kernel_rfl) ?_ _
                try simp only [List.getElem_toArray, List.getElem_cons_succ, List.getElem_cons_zero, List.setIfInBounds_toArray, List.set_cons_succ, List.set_cons_zero]
                go_wp2_with fail
                go_ret
                exact ⟨⟨b, rfl, hiff⟩, L3⟩
              · go_simp
                refine hK _ _ ?_
                clear hK K
                refine wpAny_ready (rs := [13]) (by kernel_rfl) (by simp) ?_
                refine AllReady.cons rfl (fun K hK => ?_) AllReady.nil
                go_simp
                go_at_call 79
                refine (CON.out _).mono ?_
                rintro e w4 ⟨rfl, hb4⟩
                have L3 := L2.trans (hb4.mono L2.size)
                have BC3 := BC2.below hb4 hgc2
                have a5 : w4.cell? ⟨gc, 1, none⟩ = some (.int .i64 v) := BC3.cell 1
                clear hb4
                refine hK _ _ ?_
                clear hK K
                refine wpAny_take (i := 16) (v := .bool b) rfl (by kernel_rfl) (by kernel_rfl) (by kernel_rfl) (fun _ _ _ h => h) (Or.inl ⟨by kernel_rfl, fun W => by first | rfl | go_simp⟩) ?_
                simp only [Act.put, List.getElem_toArray, List.getElem_cons_succ, List.getElem_cons_zero, List.setIfInBounds_toArray, List.set_cons_succ, List.set_cons_zero]
                refine wpAny_take (i := 17) (v := .bool b) rfl (by kernel_rfl) (by kernel_rfl) (by kernel_rfl) (fun _ _ _ h => h) (Or.inl ⟨by kernel_rfl, fun W => by first | rfl | go_simp⟩) ?_
                simp only [Act.put, List.getElem_toArray, List.getElem_cons_succ, List.getElem_cons_zero, List.setIfInBounds_toArray, List.set_cons_succ, List.set_cons_zero]
                refine wpAny_take (i := 18) (v := .bool b) rfl (by kernel_rfl) (by kernel_rfl) (by kernel_rfl) (fun _ _ _ h => h) (Or.inl ⟨by kernel_rfl, fun W => by first | rfl | go_simp⟩) ?_
                simp only [Act.put, List.getElem_toArray, List.getElem_cons_succ, List.getElem_cons_zero, List.setIfInBounds_toArray, List.set_cons_succ, List.set_cons_zero]
                refine wpAny_done (by kernel_rfl) ?_ _
                try simp only [List.getElem_toArray, List.getElem_cons_succ, List.getElem_cons_zero, List.setIfInBounds_toArray, List.set_cons_succ, List.set_cons_zero]
                go_wp2_with fail
                go_ret
                exact ⟨⟨b, rfl, hiff⟩, L3⟩
            · go_simp
              refine hK _ _ ?_
              clear hK K
              refine wpAny_ready (rs := [11]) (by kernel_rfl) (by simp) ?_
              refine AllReady.cons rfl (fun K hK => ?_) AllReady.nil
              go_simp
              refine hK _ _ ?_
              clear hK K
              refine wpAny_ready (rs := [13]) (by kernel_rfl) (by simp) ?_
              refine AllReady.cons rfl (fun K hK => ?_) AllReady.nil
              go_simp
              go_at_call 79
              refine (CON.out _).mono ?_
              rintro e w4 ⟨rfl, hb4⟩
              have L3 := L2.trans (hb4.mono L2.size)
              have BC3 := BC2.below hb4 hgc2
              have a5 : w4.cell? ⟨gc, 1, none⟩ = some (.int .i64 v) := BC3.cell 1
              clear hb4
              refine hK _ _ ?_
              clear hK K
              refine wpAny_take (i := 16) (v := .bool b) rfl (by kernel_rfl) (by kernel_rfl) (by kernel_rfl) (fun _ _ _ h => h) (Or.inl ⟨by kernel_rfl, fun W => by first | rfl | go_simp⟩) ?_
              simp only [Act.put, List.getElem_toArray, List.getElem_cons_succ, List.getElem_cons_zero, List.setIfInBounds_toArray, List.set_cons_succ, List.set_cons_zero]
              refine wpAny_take (i := 17) (v := .bool b) rfl (by kernel_rfl) (by kernel_rfl) (by kernel_rfl) (fun _ _ _ h => h) (Or.inl ⟨by kernel_rfl, fun W => by first | rfl | go_simp⟩) ?_
              simp only [Act.put, List.getElem_toArray, List.getElem_cons_succ, List.getElem_cons_zero, List.setIfInBounds_toArray, List.set_cons_succ, List.set_cons_zero]
              refine wpAny_take (i := 18) (v := .bool b) rfl (by kernel_rfl) (by kernel_rfl) (by kernel_rfl) (fun _ _ _ h => h) (Or.inl ⟨by kernel_rfl, fun W => by first | rfl | go_simp⟩) ?_
              simp only [Act.put, List.getElem_toArray, List.getElem_cons_succ, List.getElem_cons_zero, List.setIfInBounds_toArray, List.set_cons_succ, List.set_cons_zero]
              refine wpAny_done (by kernel_rfl) ?_ _
              try simp only [List.getElem_toArray, List.getElem_cons_succ, List.getElem_cons_zero, List.setIfInBounds_toArray, List.set_cons_succ, List.set_cons_zero]
              go_wp2_with fail
              go_ret
              exact ⟨⟨b, rfl, hiff⟩, L3⟩
          · go_simp
            refine hK _ _ ?_
            clear hK K
            refine wpAny_ready (rs := [11, 12]) (by kernel_rfl) (by simp) ?_
            refine AllReady.cons rfl (fun K hK => ?_) (AllReady.cons rfl (fun K hK => ?_) AllReady.nil)
            · go_simp
              refine hK _ _ ?_
              clear hK K
              refine wpAny_ready (rs := [12]) (by kernel_rfl) (by simp) ?_
              refine AllReady.cons rfl (fun K hK => ?_) AllReady.nil
              go_simp
              refine hK _ _ ?_
              clear hK K
              refine wpAny_ready (rs := [13]) (by kernel_rfl) (by simp) ?_
              refine AllReady.cons rfl (fun K hK => ?_) AllReady.nil
              go_simp
              go_at_call 79
              refine (CON.out _).mono ?_
              rintro e w4 ⟨rfl, hb4⟩
              have L3 := L2.trans (hb4.mono L2.size)
              have BC3 := BC2.below hb4 hgc2
              have a5 : w4.cell? ⟨gc, 1, none⟩ = some (.int .i64 v) := BC3.cell 1
              clear hb4
              refine hK _ _ ?_
              clear hK K
              refine wpAny_take (i := 16) (v := .bool b) rfl (by kernel_rfl) (by kernel_rfl) (by kernel_rfl) (fun _ _ _ h => h) (Or.inl ⟨by kernel_rfl, fun W => by first | rfl | go_simp⟩) ?_
              simp only [Act.put, List.getElem_toArray, List.getElem_cons_succ, List.getElem_cons_zero, List.setIfInBounds_toArray, List.set_cons_succ, List.set_cons_zero]
              refine wpAny_take (i := 17) (v := .bool b) rfl (by kernel_rfl) (by kernel_rfl) (by kernel_rfl) (fun _ _ _ h => h) (Or.inl ⟨by kernel_rfl, fun W => by first | rfl | go_simp⟩) ?_
              simp only [Act.put, List.getElem_toArray, List.getElem_cons_succ, List.getElem_cons_zero, List.setIfInBounds_toArray, List.set_cons_succ, List.set_cons_zero]
              refine wpAny_take (i := 18) (v := .bool b) rfl (by kernel_rfl) (by kernel_rfl) (by kernel_rfl) (fun _ _ _ h => h) (Or.inl ⟨by kernel_rfl, fun W => by first | rfl | go_simp⟩) ?_
              simp only [Act.put, List.getElem_toArray, List.getElem_cons_succ, List.getElem_cons_zero, List.setIfInBounds_toArray, List.set_cons_succ, List.set_cons_zero]
              refine wpAny_done (by kernel_rfl) ?_ _
              try simp only [List.getElem_toArray, List.getElem_cons_succ, List.getElem_cons_zero, List.setIfInBounds_toArray, List.set_cons_succ, List.set_cons_zero]
              go_wp2_with fail
              go_ret
              exact ⟨⟨b, rfl, hiff⟩, L3⟩
            · go_simp
              refine hK _ _ ?_
              clear hK K
              refine wpAny_ready (rs := [11]) (by kernel_rfl) (by simp) ?_
              refine AllReady.cons rfl (fun K hK => ?_) AllReady.nil
              go_simp
              refine hK _ _ ?_
              clear hK K
              refine wpAny_ready (rs := [13]) (by kernel_rfl) (by simp) ?_
              refine AllReady.cons rfl (fun K hK => ?_) AllReady.nil
              go_simp
              go_at_call 79
              refine (CON.out _).mono ?_
              rintro e w4 ⟨rfl, hb4⟩
              have L3 := L2.trans (hb4.mono L2.size)
              have BC3 := BC2.below hb4 hgc2
              have a5 : w4.cell? ⟨gc, 1, none⟩ = some (.int .i64 v) := BC3.cell 1
              clear hb4
              refine hK _ _ ?_
              clear hK K
              refine wpAny_take (i := 16) (v := .bool b) rfl (by kernel_rfl) (by kernel_rfl) (by kernel_rfl) (fun _ _ _ h => h) (Or.inl ⟨by kernel_rfl, fun W => by first | rfl | go_simp⟩) ?_
              simp only [Act.put, List.getElem_toArray, List.getElem_cons_succ, List.getElem_cons_zero, List.setIfInBounds_toArray, List.set_cons_succ, List.set_cons_zero]
              refine wpAny_take (i := 17) (v := .bool b) rfl (by kernel_rfl) (by kernel_rfl) (by kernel_rfl) (fun _ _ _ h => h) (Or.inl ⟨by kernel_rfl, fun W => by first | rfl | go_simp⟩) ?_
              simp only [Act.put, List.getElem_toArray, List.getElem_cons_succ, List.getElem_cons_zero, List.setIfInBounds_toArray, List.set_cons_succ, List.set_cons_zero]
              refine wpAny_take (i := 18) (v := .bool b) rfl (by kernel_rfl) (by kernel_rfl) (by kernel_rfl) (fun _ _ _ h => h) (Or.inl ⟨by kernel_rfl, fun W => by first | rfl | go_simp⟩) ?_
              simp only [Act.put, List.getElem_toArray, List.getElem_cons_succ, List.getElem_cons_zero, List.setIfInBounds_toArray, List.set_cons_succ, List.set_cons_zero]
              refine wpAny_done (by kernel_rfl) ?_ _
              try simp only [List.getElem_toArray, List.getElem_cons_succ, List.getElem_cons_zero, List.setIfInBounds_toArray, List.set_cons_succ, List.set_cons_zero]
              go_wp2_with fail
              go_ret
              exact ⟨⟨b, rfl, hiff⟩, L3⟩
  · have x1 : (z == x) = false := by simpa using hx
    have x2 : decide (z = x) = false := by simpa using hx
    have x3 : decide ((⟨z.toArray⟩ : ByteArray) = ⟨x.toArray⟩) = false := by simpa using hx
    rw [hwz] at r0 r1 r2 n0 c1 c7 hgr hgc hgn BR BC BN L
    go_enter Tryz.func166, Tryz.ntmps166
    go_wp2_with fail
    refine wp_region_any (by kernel_rfl) ?_
    change wpAny _ _ _ _ _ _ _ (World.drew _)
    refine wpAny_take (i := 0) (v := .pointer (some ⟨w.heap.size, 0, none⟩)) rfl (by kernel_rfl) (by kernel_rfl) (by kernel_rfl) (fun _ _ _ h => h) (Or.inl ⟨by kernel_rfl, fun W => by first | rfl | go_simp⟩) ?_
    simp only [Act.put, List.getElem_toArray, List.getElem_cons_succ, List.getElem_cons_zero, List.setIfInBounds_toArray, List.set_cons_succ, List.set_cons_zero]
    refine wpAny_take (i := 2) (v := .pointer (some ⟨gc, 7, none⟩)) rfl (by kernel_rfl) (by kernel_rfl) (by kernel_rfl) (fun _ _ _ h => h) (Or.inl ⟨by kernel_rfl, fun W => by first | rfl | go_simp⟩) ?_
    simp only [Act.put, List.getElem_toArray, List.getElem_cons_succ, List.getElem_cons_zero, List.setIfInBounds_toArray, List.set_cons_succ, List.set_cons_zero]
    refine wpAny_ready (rs := [1, 3]) (by kernel_rfl) (by simp) ?_
    refine AllReady.cons rfl (fun K hK => ?_) (AllReady.cons rfl (fun K hK => ?_) AllReady.nil)
    · go_simp
      refine hK _ _ ?_
      clear hK K
      refine wpAny_ready (rs := [3]) (by kernel_rfl) (by simp) ?_
      refine AllReady.cons rfl (fun K hK => ?_) AllReady.nil
      go_simp
      refine hK _ _ ?_
      clear hK K
      refine wpAny_take (i := 4) (v := .bool false) rfl (by kernel_rfl) (by kernel_rfl) (by kernel_rfl) (fun _ _ _ h => h) (Or.inl ⟨by kernel_rfl, fun W => by first | rfl | go_simp⟩) ?_
      simp only [Act.put, List.getElem_toArray, List.getElem_cons_succ, List.getElem_cons_zero, List.setIfInBounds_toArray, List.set_cons_succ, List.set_cons_zero]
      refine wpAny_take (i := 5) (v := .bool false) rfl (by kernel_rfl) (by kernel_rfl) (by kernel_rfl) (fun _ _ _ h => h) (Or.inl ⟨by kernel_rfl, fun W => by first | rfl | go_simp⟩) ?_
      simp only [Act.put, List.getElem_toArray, List.getElem_cons_succ, List.getElem_cons_zero, List.setIfInBounds_toArray, List.set_cons_succ, List.set_cons_zero]
      refine wpAny_take (i := 6) (v := undef) rfl (by kernel_rfl) (by kernel_rfl) (by kernel_rfl) (fun _ _ _ h => h) (Or.inr ⟨by kernel_rfl, rfl⟩) ?_
      simp only [Act.put, List.getElem_toArray, List.getElem_cons_succ, List.getElem_cons_zero, List.setIfInBounds_toArray, List.set_cons_succ, List.set_cons_zero]
      refine wpAny_take (i := 7) (v := undef) rfl (by kernel_rfl) (by kernel_rfl) (by kernel_rfl) (fun _ _ _ h => h) (Or.inr ⟨by kernel_rfl, rfl⟩) ?_
      simp only [Act.put, List.getElem_toArray, List.getElem_cons_succ, List.getElem_cons_zero, List.setIfInBounds_toArray, List.set_cons_succ, List.set_cons_zero]
      refine wpAny_take (i := 8) (v := undef) rfl (by kernel_rfl) (by kernel_rfl) (by kernel_rfl) (fun _ _ _ h => h) (Or.inr ⟨by kernel_rfl, rfl⟩) ?_
      simp only [Act.put, List.getElem_toArray, List.getElem_cons_succ, List.getElem_cons_zero, List.setIfInBounds_toArray, List.set_cons_succ, List.set_cons_zero]
      refine wpAny_take (i := 9) (v := .bool false) rfl (by kernel_rfl) (by kernel_rfl) (by kernel_rfl) (fun _ _ _ h => h) (Or.inl ⟨by kernel_rfl, fun W => by first | rfl | go_simp⟩) ?_
      simp only [Act.put, List.getElem_toArray, List.getElem_cons_succ, List.getElem_cons_zero, List.setIfInBounds_toArray, List.set_cons_succ, List.set_cons_zero]
      refine wpAny_take (i := 10) (v := .bool false) rfl (by kernel_rfl) (by kernel_rfl) (by kernel_rfl) (fun _ _ _ h => h) (Or.inl ⟨by kernel_rfl, fun W => by first | rfl | go_simp⟩) ?_
      simp only [Act.put, List.getElem_toArray, List.getElem_cons_succ, List.getElem_cons_zero, List.setIfInBounds_toArray, List.set_cons_succ, List.set_cons_zero]
      refine wpAny_take (i := 11) (v := undef) rfl (by kernel_rfl) (by kernel_rfl) (by kernel_rfl) (fun _ _ _ h => h) (Or.inr ⟨by kernel_rfl, rfl⟩) ?_
      simp only [Act.put, List.getElem_toArray, List.getElem_cons_succ, List.getElem_cons_zero, List.setIfInBounds_toArray, List.set_cons_succ, List.set_cons_zero]
      refine wpAny_take (i := 12) (v := undef) rfl (by kernel_rfl) (by kernel_rfl) (by kernel_rfl) (fun _ _ _ h => h) (Or.inr ⟨by kernel_rfl, rfl⟩) ?_
      simp only [Act.put, List.getElem_toArray, List.getElem_cons_succ, List.getElem_cons_zero, List.setIfInBounds_toArray, List.set_cons_succ, List.set_cons_zero]
      refine wpAny_take (i := 13) (v := undef) rfl (by kernel_rfl) (by kernel_rfl) (by kernel_rfl) (fun _ _ _ h => h) (Or.inr ⟨by kernel_rfl, rfl⟩) ?_
      simp only [Act.put, List.getElem_toArray, List.getElem_cons_succ, List.getElem_cons_zero, List.setIfInBounds_toArray, List.set_cons_succ, List.set_cons_zero]
      refine wpAny_take (i := 14) (v := undef) rfl (by kernel_rfl) (by kernel_rfl) (by kernel_rfl) (fun _ _ _ h => h) (Or.inr ⟨by kernel_rfl, rfl⟩) ?_
      simp only [Act.put, List.getElem_toArray, List.getElem_cons_succ, List.getElem_cons_zero, List.setIfInBounds_toArray, List.set_cons_succ, List.set_cons_zero]
      refine wpAny_take (i := 15) (v := undef) rfl (by kernel_rfl) (by kernel_rfl) (by kernel_rfl) (fun _ _ _ h => h) (Or.inr ⟨by kernel_rfl, rfl⟩) ?_
      simp only [Act.put, List.getElem_toArray, List.getElem_cons_succ, List.getElem_cons_zero, List.setIfInBounds_toArray, List.set_cons_succ, List.set_cons_zero]
      refine wpAny_take (i := 16) (v := undef) rfl (by kernel_rfl) (by kernel_rfl) (by kernel_rfl) (fun _ _ _ h => h) (Or.inr ⟨by kernel_rfl, rfl⟩) ?_
      simp only [Act.put, List.getElem_toArray, List.getElem_cons_succ, List.getElem_cons_zero, List.setIfInBounds_toArray, List.set_cons_succ, List.set_cons_zero]
      refine wpAny_take (i := 17) (v := .bool false) rfl (by kernel_rfl) (by kernel_rfl) (by kernel_rfl) (fun _ _ _ h => h) (Or.inl ⟨by kernel_rfl, fun W => by first | rfl | go_simp⟩) ?_
      simp only [Act.put, List.getElem_toArray, List.getElem_cons_succ, List.getElem_cons_zero, List.setIfInBounds_toArray, List.set_cons_succ, List.set_cons_zero]
      refine wpAny_take (i := 18) (v := .bool false) rfl (by kernel_rfl) (by kernel_rfl) (by kernel_rfl) (fun _ _ _ h => h) (Or.inl ⟨by kernel_rfl, fun W => by first | rfl | go_simp⟩) ?_
      simp only [Act.put, List.getElem_toArray, List.getElem_cons_succ, List.getElem_cons_zero, List.setIfInBounds_toArray, List.set_cons_succ, List.set_cons_zero]
      refine wpAny_done (by kernel_rfl) ?_ _
      try simp only [List.getElem_toArray, List.getElem_cons_succ, List.getElem_cons_zero, List.setIfInBounds_toArray, List.set_cons_succ, List.set_cons_zero]
      go_wp2_with fail
      go_ret
      exact ⟨⟨false, rfl, by simp [hx]⟩, L.drew⟩
    · go_simp
      refine hK _ _ ?_
      clear hK K
      refine wpAny_ready (rs := [1]) (by kernel_rfl) (by simp) ?_
      refine AllReady.cons rfl (fun K hK => ?_) AllReady.nil
      go_simp
      refine hK _ _ ?_
      clear hK K
      refine wpAny_take (i := 4) (v := .bool false) rfl (by kernel_rfl) (by kernel_rfl) (by kernel_rfl) (fun _ _ _ h => h) (Or.inl ⟨by kernel_rfl, fun W => by first | rfl | go_simp⟩) ?_
      simp only [Act.put, List.getElem_toArray, List.getElem_cons_succ, List.getElem_cons_zero, List.setIfInBounds_toArray, List.set_cons_succ, List.set_cons_zero]
      refine wpAny_take (i := 5) (v := .bool false) rfl (by kernel_rfl) (by kernel_rfl) (by kernel_rfl) (fun _ _ _ h => h) (Or.inl ⟨by kernel_rfl, fun W => by first | rfl | go_simp⟩) ?_
      simp only [Act.put, List.getElem_toArray, List.getElem_cons_succ, List.getElem_cons_zero, List.setIfInBounds_toArray, List.set_cons_succ, List.set_cons_zero]
      refine wpAny_take (i := 6) (v := undef) rfl (by kernel_rfl) (by kernel_rfl) (by kernel_rfl) (fun _ _ _ h => h) (Or.inr ⟨by kernel_rfl, rfl⟩) ?_
      simp only [Act.put, List.getElem_toArray, List.getElem_cons_succ, List.getElem_cons_zero, List.setIfInBounds_toArray, List.set_cons_succ, List.set_cons_zero]
      refine wpAny_take (i := 7) (v := undef) rfl (by kernel_rfl) (by kernel_rfl) (by kernel_rfl) (fun _ _ _ h => h) (Or.inr ⟨by kernel_rfl, rfl⟩) ?_
      simp only [Act.put, List.getElem_toArray, List.getElem_cons_succ, List.getElem_cons_zero, List.setIfInBounds_toArray, List.set_cons_succ, List.set_cons_zero]
      refine wpAny_take (i := 8) (v := undef) rfl (by kernel_rfl) (by kernel_rfl) (by kernel_rfl) (fun _ _ _ h => h) (Or.inr ⟨by kernel_rfl, rfl⟩) ?_
      simp only [Act.put, List.getElem_toArray, List.getElem_cons_succ, List.getElem_cons_zero, List.setIfInBounds_toArray, List.set_cons_succ, List.set_cons_zero]
      refine wpAny_take (i := 9) (v := .bool false) rfl (by kernel_rfl) (by kernel_rfl) (by kernel_rfl) (fun _ _ _ h => h) (Or.inl ⟨by kernel_rfl, fun W => by first | rfl | go_simp⟩) ?_
      simp only [Act.put, List.getElem_toArray, List.getElem_cons_succ, List.getElem_cons_zero, List.setIfInBounds_toArray, List.set_cons_succ, List.set_cons_zero]
      refine wpAny_take (i := 10) (v := .bool false) rfl (by kernel_rfl) (by kernel_rfl) (by kernel_rfl) (fun _ _ _ h => h) (Or.inl ⟨by kernel_rfl, fun W => by first | rfl | go_simp⟩) ?_
      simp only [Act.put, List.getElem_toArray, List.getElem_cons_succ, List.getElem_cons_zero, List.setIfInBounds_toArray, List.set_cons_succ, List.set_cons_zero]
      refine wpAny_take (i := 11) (v := undef) rfl (by kernel_rfl) (by kernel_rfl) (by kernel_rfl) (fun _ _ _ h => h) (Or.inr ⟨by kernel_rfl, rfl⟩) ?_
      simp only [Act.put, List.getElem_toArray, List.getElem_cons_succ, List.getElem_cons_zero, List.setIfInBounds_toArray, List.set_cons_succ, List.set_cons_zero]
      refine wpAny_take (i := 12) (v := undef) rfl (by kernel_rfl) (by kernel_rfl) (by kernel_rfl) (fun _ _ _ h => h) (Or.inr ⟨by kernel_rfl, rfl⟩) ?_
      simp only [Act.put, List.getElem_toArray, List.getElem_cons_succ, List.getElem_cons_zero, List.setIfInBounds_toArray, List.set_cons_succ, List.set_cons_zero]
      refine wpAny_take (i := 13) (v := undef) rfl (by kernel_rfl) (by kernel_rfl) (by kernel_rfl) (fun _ _ _ h => h) (Or.inr ⟨by kernel_rfl, rfl⟩) ?_
      simp only [Act.put, List.getElem_toArray, List.getElem_cons_succ, List.getElem_cons_zero, List.setIfInBounds_toArray, List.set_cons_succ, List.set_cons_zero]
      refine wpAny_take (i := 14) (v := undef) rfl (by kernel_rfl) (by kernel_rfl) (by kernel_rfl) (fun _ _ _ h => h) (Or.inr ⟨by kernel_rfl, rfl⟩) ?_
      simp only [Act.put, List.getElem_toArray, List.getElem_cons_succ, List.getElem_cons_zero, List.setIfInBounds_toArray, List.set_cons_succ, List.set_cons_zero]
      refine wpAny_take (i := 15) (v := undef) rfl (by kernel_rfl) (by kernel_rfl) (by kernel_rfl) (fun _ _ _ h => h) (Or.inr ⟨by kernel_rfl, rfl⟩) ?_
      simp only [Act.put, List.getElem_toArray, List.getElem_cons_succ, List.getElem_cons_zero, List.setIfInBounds_toArray, List.set_cons_succ, List.set_cons_zero]
      refine wpAny_take (i := 16) (v := undef) rfl (by kernel_rfl) (by kernel_rfl) (by kernel_rfl) (fun _ _ _ h => h) (Or.inr ⟨by kernel_rfl, rfl⟩) ?_
      simp only [Act.put, List.getElem_toArray, List.getElem_cons_succ, List.getElem_cons_zero, List.setIfInBounds_toArray, List.set_cons_succ, List.set_cons_zero]
      refine wpAny_take (i := 17) (v := .bool false) rfl (by kernel_rfl) (by kernel_rfl) (by kernel_rfl) (fun _ _ _ h => h) (Or.inl ⟨by kernel_rfl, fun W => by first | rfl | go_simp⟩) ?_
      simp only [Act.put, List.getElem_toArray, List.getElem_cons_succ, List.getElem_cons_zero, List.setIfInBounds_toArray, List.set_cons_succ, List.set_cons_zero]
      refine wpAny_take (i := 18) (v := .bool false) rfl (by kernel_rfl) (by kernel_rfl) (by kernel_rfl) (fun _ _ _ h => h) (Or.inl ⟨by kernel_rfl, fun W => by first | rfl | go_simp⟩) ?_
      simp only [Act.put, List.getElem_toArray, List.getElem_cons_succ, List.getElem_cons_zero, List.setIfInBounds_toArray, List.set_cons_succ, List.set_cons_zero]
      refine wpAny_done (by kernel_rfl) ?_ _
      try simp only [List.getElem_toArray, List.getElem_cons_succ, List.getElem_cons_zero, List.setIfInBounds_toArray, List.set_cons_succ, List.set_cons_zero]
      go_wp2_with fail
      go_ret
      exact ⟨⟨false, rfl, by simp [hx]⟩, L.drew⟩
set_option maxRecDepth 100000 in
set_option maxHeartbeats 1000000 in
theorem i_idxR (g C : Nat) (rs : List RG) (gc gn : Nat) (x : List UInt8) (v m f r d s n : Int) (w : World) (BC0 : Blk w gc 55 #[.int .i64 2, .int .i64 v, .int .i64 m, .int .i64 f, .int .i64 r, .int .i64 d, .int .i64 s, .string ⟨x.toArray⟩]) (BN0 : Blk w gn 2 #[.int .i64 n]) (h1 : n ≤ 730499) (hR : RowR w g rs.length rs) (hn : rs.length ≤ 1048576) (hok : ∀ j, j < rs.length → 0 ≤ (rs.getD j rg0).2.1 ∧ (rs.getD j rg0).2.1 ≤ (rs.getD j rg0).2.2 ∧ (rs.getD j rg0).2.2 ≤ 730499) :
    Calls Tryz.prog 216 #[.slice (some ⟨g, 0, none⟩) rs.length C, .func (.func 166) #[] #[.pointer (some ⟨gc, 0, none⟩), .pointer (some ⟨gn, 0, none⟩)]] w fun e w' => (∃ u : Int, e = .returned (.int .i64 u) ∧ (0 ≤ u ↔ rgP rs x v n)) ∧ Below w.heap.size w w' := by
  unfold rgP
  have HR := Lib.hid hR
  have HO := Lib.hid hok
  have hgc0 := BC0.lt
  have hgn0 := BN0.lt
  have HC := Lib.hid BC0
  have HB := Lib.hid BN0
  clear hR hok BC0 BN0
  obtain ⟨nn, hnn⟩ : ∃ nn, rs.length = nn := ⟨_, rfl⟩
  rw [hnn] at HR HO hn ⊢
  clear hnn
  go_enter Tryz.func216, Tryz.ntmps216
  go_wp2_with fail
  go_loopw [8] (fun q wr => ∃ i : Nat, i ≤ nn ∧ q = .int .i64 i ∧ Hid (∀ j, j < i → ¬ ((rs.getD j rg0).1 = x ∧ inB n (rs.getD j rg0).2.1 (rs.getD j rg0).2.2 = true ∧ ky (rs.getD j rg0).2.1 n = v)) ∧ Below w.heap.size w wr) (fun q _ => nn - (intOf q).toNat)
  case atStart => exact ⟨0, by omega, rfl, Lib.hid (fun j h => absurd h (Nat.not_lt_zero j)), Below.refl _ _⟩
  case round =>
    obtain ⟨i, hi, rfl, HN, L⟩ := hrel
    by_cases hlt : i < nn
    · obtain ⟨hg, hc⟩ := HR.out (by omega)
      obtain ⟨g0, g1, g2⟩ := hc i hlt
      have c0 := (L.cell (p := ⟨g, i * 3, none⟩) hg).trans g0
      have c1 := (L.cell (p := ⟨g, i * 3 + 1, none⟩) hg).trans g1
      have c2 := (L.cell (p := ⟨g, i * 3 + 2, none⟩) hg).trans g2
      have hgw : g < wr.heap.size := Nat.lt_of_lt_of_le hg L.size
      have ho := HO.out i hlt
      have HH := Lib.hid (fun h => (⟨i, hlt, h⟩ : ∃ j, j < nn ∧ (rs.getD j rg0).1 = x ∧ inB n (rs.getD j rg0).2.1 (rs.getD j rg0).2.2 = true ∧ ky (rs.getD j rg0).2.1 n = v))
      have HS := Lib.hid (fun (h : ¬ ((rs.getD i rg0).1 = x ∧ inB n (rs.getD i rg0).2.1 (rs.getD i rg0).2.2 = true ∧ ky (rs.getD i rg0).2.1 n = v)) j (h2 : j < i + 1) => show ¬ ((rs.getD j rg0).1 = x ∧ inB n (rs.getD j rg0).2.1 (rs.getD j rg0).2.2 = true ∧ ky (rs.getD j rg0).2.1 n = v) by
        by_cases e : j = i
        · subst e; exact h
        · exact HN.out j (by omega))
      obtain ⟨p, hp⟩ : ∃ p, rs.getD i rg0 = p := ⟨_, rfl⟩
      rw [hp] at c0 c1 c2 ho HH HS
      obtain ⟨z, F, T⟩ := p
      dsimp only at c0 c1 c2 ho HH HS
      have CON := Lib.hid (fun W (h : Below w.heap.size w W) => i_hold1 z F T gc gn x v m f r d s n W (HC.out.below h hgc0) (HB.out.below h hgn0) ho h1)
      clear hp hc g0 g1 g2 HN ho
      go_wp2_with fail
      refine (CON.out _ L).mono ?_
      rintro e w2 ⟨⟨b, rfl, hb⟩, hL⟩
      have L2 := below_step L hL
      clear hL CON
      cases b with
      | false =>
        have HT := Lib.hid (HS.out (fun h => by have := hb.2 h; cases this))
        clear hb HH HS
        go_wp2_with fail
        go_roundw
        case rel => exact ⟨i + 1, by omega, by go_num, HT, L2⟩
        case measure => simp [intOf]; omega
      | true =>
        have HT := Lib.hid (HH.out (hb.1 rfl))
        clear hb HH HS
        go_wp2_with fail
        go_ret
        exact ⟨⟨i, rfl, fun _ => HT.out, fun _ => by omega⟩, L2⟩
    · obtain rfl : i = nn := by omega
      have HF := Lib.hid (show ¬ ∃ j, j < i ∧ (rs.getD j rg0).1 = x ∧ inB n (rs.getD j rg0).2.1 (rs.getD j rg0).2.2 = true ∧ ky (rs.getD j rg0).2.1 n = v from fun ⟨j, hj, h⟩ => HN.out j hj h)
      clear HN
      go_wp2_with fail
      go_ret
      exact ⟨⟨-1, rfl, fun h => absurd h (by decide), fun h => absurd h HF.out⟩, L⟩
theorem i_contR (g C : Nat) (rs : List RG) (gc gn : Nat) (x : List UInt8) (v m f r d s n : Int) (w : World) (BC0 : Blk w gc 55 #[.int .i64 2, .int .i64 v, .int .i64 m, .int .i64 f, .int .i64 r, .int .i64 d, .int .i64 s, .string ⟨x.toArray⟩]) (BN0 : Blk w gn 2 #[.int .i64 n]) (h1 : n ≤ 730499) (hR : RowR w g rs.length rs) (hn : rs.length ≤ 1048576) (hok : ∀ j, j < rs.length → 0 ≤ (rs.getD j rg0).2.1 ∧ (rs.getD j rg0).2.1 ≤ (rs.getD j rg0).2.2 ∧ (rs.getD j rg0).2.2 ≤ 730499) :
    Calls Tryz.prog 165 #[.slice (some ⟨g, 0, none⟩) rs.length C, .func (.func 166) #[] #[.pointer (some ⟨gc, 0, none⟩), .pointer (some ⟨gn, 0, none⟩)]] w fun e w' => (∃ b, e = .returned (.bool b) ∧ (b = true ↔ rgP rs x v n)) ∧ Below w.heap.size w w' := by
  have CON := Lib.hid (i_idxR g C rs gc gn x v m f r d s n w BC0 BN0 h1 hR hn hok)
  clear BC0 BN0 hR hok
  go_enter Tryz.func165, Tryz.ntmps165
  go_wp2_with fail
  refine CON.out.mono ?_
  rintro e w1 ⟨⟨u, rfl, hu⟩, hb⟩
  by_cases h0 : 0 ≤ u
  · have HT := Lib.hid (hu.1 h0)
    clear hu
    go_wp2_with fail
    go_ret
    exact ⟨⟨true, rfl, fun _ => HT.out, fun _ => rfl⟩, hb⟩
  · have HT := Lib.hid (fun h => h0 (hu.2 h))
    have h0' : u < 0 := by omega
    have h0d : decide (0 ≤ u) = false := by simp; omega
    clear hu h0
    go_wp2_with fail
    go_ret
    exact ⟨⟨false, rfl, fun h => absurd h (by decide), fun h => absurd h HT.out⟩, hb⟩
set_option maxRecDepth 100000 in
set_option maxHeartbeats 4000000 in
theorem i_ho2 (g C : Nat) (rs : List RG) (v m : Int) (f : Int) (r d s : Int) (k : ByteArray) (n : Int) (w : World) (_ : 0 ≤ n) (h1 : n ≤ 730499) (hg : g < w.heap.size) (hR : RowR w g rs.length rs) (hn : rs.length ≤ 1048576) (hok : ∀ j, j < rs.length → 0 ≤ (rs.getD j rg0).2.1 ∧ (rs.getD j rg0).2.1 ≤ (rs.getD j rg0).2.2 ∧ (rs.getD j rg0).2.2 ≤ 730499) :
    Calls Tryz.prog 98 #[.slice (some ⟨g, 0, none⟩) rs.length C, .agg #[.int .i64 2, .int .i64 v, .int .i64 m, .int .i64 f, .int .i64 r, .int .i64 d, .int .i64 s, .string k], .int .i64 n] w fun e w' => (∃ b, e = .returned (.bool b) ∧ (b = true ↔ rgP rs k.data.toList v n)) ∧ Below w.heap.size w w' := by
  obtain ⟨x, rfl⟩ : ∃ x : List UInt8, k = ⟨x.toArray⟩ := ⟨k.data.toList, by simp⟩
  have hkx : (⟨x.toArray⟩ : ByteArray).data.toList = x := by simp
  rw [hkx]
  clear hkx
  have BC0 := (Blk.new w 55 #[.int .i64 2, .int .i64 v, .int .i64 m, .int .i64 f, .int .i64 r, .int .i64 d, .int .i64 s, .string ⟨x.toArray⟩]).alloc (.cells #[.int .i64 n] 2)
  have BN0 := Blk.new' (w.alloc (.cells #[.int .i64 2, .int .i64 v, .int .i64 m, .int .i64 f, .int .i64 r, .int .i64 d, .int .i64 s, .string ⟨x.toArray⟩] 55)) 2 #[.int .i64 n] (w.heap.size + 1) (by simp)
  have L0 := below_more (below_alloc w (.cells #[.int .i64 2, .int .i64 v, .int .i64 m, .int .i64 f, .int .i64 r, .int .i64 d, .int .i64 s, .string ⟨x.toArray⟩] 55)) (by simp) (.cells #[.int .i64 n] 2)
  have CON := Lib.hid (i_contR g C rs w.heap.size (w.heap.size + 1) x v m f r d s n _ BC0 BN0 h1 ((hR.below (below_alloc w (.cells #[.int .i64 2, .int .i64 v, .int .i64 m, .int .i64 f, .int .i64 r, .int .i64 d, .int .i64 s, .string ⟨x.toArray⟩] 55)) hg).below (below_alloc _ (.cells #[.int .i64 n] 2)) (by simp; omega)) hn hok)
  clear hR hok BC0 BN0
  obtain ⟨nn, hnn⟩ : ∃ nn, rs.length = nn := ⟨_, rfl⟩
  rw [hnn] at CON hn ⊢
  clear hnn
  go_enter Tryz.func98, Tryz.ntmps98
  go_wp2_with fail
  refine CON.out.mono ?_
  rintro e w1 ⟨⟨b, rfl, hb⟩, hb1⟩
  have L1 := below_step L0 hb1
  go_wp2_with fail
  go_ret
  exact ⟨⟨b, rfl, hb⟩, L1⟩
set_option maxRecDepth 100000 in
set_option maxHeartbeats 4000000 in
theorem i_ho3 (A : Option Addr) (nr C : Nat) (v m : Int) (f : Int) (r d s : Int) (k : ByteArray) (n : Int) (w : World) (h0 : 0 ≤ n) (h1 : n ≤ 730499) (hs : inB s 0 6 = true) :
    Calls Tryz.prog 98 #[.slice A nr C, .agg #[.int .i64 3, .int .i64 v, .int .i64 m, .int .i64 f, .int .i64 r, .int .i64 d, .int .i64 s, .string k], .int .i64 n] w fun e w' => (∃ b, e = .returned (.bool b) ∧ (b = true ↔ yrOn s n = (v, true))) ∧ Below w.heap.size w w' := by
  have BC0 := (Blk.new w 55 #[.int .i64 3, .int .i64 v, .int .i64 m, .int .i64 f, .int .i64 r, .int .i64 d, .int .i64 s, .string k]).alloc (.cells #[.int .i64 n] 2)
  have BN0 := Blk.new' (w.alloc (.cells #[.int .i64 3, .int .i64 v, .int .i64 m, .int .i64 f, .int .i64 r, .int .i64 d, .int .i64 s, .string k] 55)) 2 #[.int .i64 n] (w.heap.size + 1) (by simp)
  have L0 := below_more (below_alloc w (.cells #[.int .i64 3, .int .i64 v, .int .i64 m, .int .i64 f, .int .i64 r, .int .i64 d, .int .i64 s, .string k] 55)) (by simp) (.cells #[.int .i64 n] 2)
  have con := fun W => i_yrOn s n W hs h0 h1
  obtain ⟨⟨Q, b⟩, hQ⟩ : ∃ p, yrOn s n = p := ⟨_, rfl⟩
  rw [hQ] at con
  dsimp only at con
  rw [hQ]
  have CON := Lib.hid con
  clear con hQ
  go_enter Tryz.func98, Tryz.ntmps98
  go_wp2_with fail
  refine (CON.out _).mono ?_
  rintro e w2 ⟨rfl, hb⟩
  have L3 := below_step L0 hb
  have B2 := BC0.below hb (by simp <;> omega)
  have c1 : w2.cell? ⟨w.heap.size, 1, none⟩ = some (.int .i64 v) := B2.cell 1
  have hz2 := B2.lt
  clear hb CON BC0 BN0 L0
  cases b with
  | false =>
    go_wp2_with fail
    go_ret
    exact ⟨⟨false, rfl, by simp⟩, L3⟩
  | true =>
    by_cases hq : Q = v
    · subst hq
      go_wp2_with fail
      go_ret
      exact ⟨by first | exact ⟨true, rfl, by simp⟩ | simp, L3⟩
    · have hf : (Q == v) = false := by simpa using hq
      go_wp2_with fail
      go_ret
      exact ⟨⟨false, rfl, by simp [hq]⟩, L3⟩
set_option maxRecDepth 100000 in
set_option maxHeartbeats 4000000 in
theorem i_ho4 (A : Option Addr) (nr C : Nat) (v m : Int) (f : Int) (r d s : Int) (k : ByteArray) (n : Int) (w : World) (h0 : 0 ≤ n) (h1 : n ≤ 730499) (hs : inB s 0 2 = true) :
    Calls Tryz.prog 98 #[.slice A nr C, .agg #[.int .i64 4, .int .i64 v, .int .i64 m, .int .i64 f, .int .i64 r, .int .i64 d, .int .i64 s, .string k], .int .i64 n] w fun e w' => (∃ b, e = .returned (.bool b) ∧ (b = true ↔ indOn s n = v)) ∧ Below w.heap.size w w' := by
  have BC0 := (Blk.new w 55 #[.int .i64 4, .int .i64 v, .int .i64 m, .int .i64 f, .int .i64 r, .int .i64 d, .int .i64 s, .string k]).alloc (.cells #[.int .i64 n] 2)
  have BN0 := Blk.new' (w.alloc (.cells #[.int .i64 4, .int .i64 v, .int .i64 m, .int .i64 f, .int .i64 r, .int .i64 d, .int .i64 s, .string k] 55)) 2 #[.int .i64 n] (w.heap.size + 1) (by simp)
  have L0 := below_more (below_alloc w (.cells #[.int .i64 4, .int .i64 v, .int .i64 m, .int .i64 f, .int .i64 r, .int .i64 d, .int .i64 s, .string k] 55)) (by simp) (.cells #[.int .i64 n] 2)
  have con := fun W => i_on s n W hs h0 h1
  obtain ⟨Q, hQ⟩ : ∃ p, indOn s n = p := ⟨_, rfl⟩
  rw [hQ] at con ⊢
  have CON := Lib.hid con
  clear con hQ
  have hgc := BC0.lt
  have hgn := BN0.lt
  have z1 := BC0.cell 1
  have z6 := BC0.cell 6
  have zn := BN0.cell 0
  have L2 := L0
  have BC := BC0
  clear BC0 BN0 L0
  obtain ⟨b, hb⟩ : ∃ b, decide (Q = v) = b := ⟨_, rfl⟩
  have hb2 : (Q == v) = b := by rw [← hb]; by_cases h : Q = v <;> simp [h]
  have hiff : b = true ↔ Q = v := by rw [← hb]; simp
  go_enter Tryz.func98, Tryz.ntmps98
  go_wp2_with fail
  generalize (w.alloc (.cells #[.int .i64 4, .int .i64 v, .int .i64 m, .int .i64 f, .int .i64 r, .int .i64 d, .int .i64 s, .string k] 55)).alloc (.cells #[.int .i64 n] 2) = wz at *
  replace z1 : wz.cell? ⟨w.heap.size, 1, none⟩ = some (.int .i64 v) := z1
  replace z6 : wz.cell? ⟨w.heap.size, 6, none⟩ = some (.int .i64 s) := z6
  replace zn : wz.cell? ⟨w.heap.size + 1, 0, none⟩ = some (.int .i64 n) := zn
  refine wp_region_any (by kernel_rfl) ?_
  change wpAny _ _ _ _ _ _ _ (World.drew _)
  refine wpAny_take (i := 0) (v := .pointer (some ⟨w.heap.size, 6, none⟩)) rfl (by kernel_rfl) (by kernel_rfl) (by kernel_rfl) (fun _ _ _ h => h) (Or.inl ⟨by kernel_rfl, fun W => by first | rfl | go_simp⟩) ?_
  simp only [Act.put, List.getElem_toArray, List.getElem_cons_succ, List.getElem_cons_zero, List.setIfInBounds_toArray, List.set_cons_succ, List.set_cons_zero]
  refine wpAny_take (i := 4) (v := .pointer (some ⟨w.heap.size, 1, none⟩)) rfl (by kernel_rfl) (by kernel_rfl) (by kernel_rfl) (fun _ _ _ h => h) (Or.inl ⟨by kernel_rfl, fun W => by first | rfl | go_simp⟩) ?_
  simp only [Act.put, List.getElem_toArray, List.getElem_cons_succ, List.getElem_cons_zero, List.setIfInBounds_toArray, List.set_cons_succ, List.set_cons_zero]
  refine wpAny_ready (rs := [1, 2, 5]) (by kernel_rfl) (by simp) ?_
  refine AllReady.cons rfl (fun K hK => ?_) (AllReady.cons rfl (fun K hK => ?_) (AllReady.cons rfl (fun K hK => ?_) AllReady.nil))
  · go_simp
    refine hK _ _ ?_
    clear hK K
    refine wpAny_ready (rs := [2, 5]) (by kernel_rfl) (by simp) ?_
    refine AllReady.cons rfl (fun K hK => ?_) (AllReady.cons rfl (fun K hK => ?_) AllReady.nil)
    · go_simp
      refine hK _ _ ?_
      clear hK K
      refine wpAny_ready (rs := [3, 5]) (by kernel_rfl) (by simp) ?_
      refine AllReady.cons rfl (fun K hK => ?_) (AllReady.cons rfl (fun K hK => ?_) AllReady.nil)
      · go_simp
        go_at_call 168
        refine (CON.out _).mono ?_
        rintro e w4 ⟨rfl, hb4⟩
        have hb5 := below_undrew hb4
        have L3 := L2.trans (hb5.mono L2.size)
        have BC2 := BC.below hb5 hgc
        have cv2 : w4.cell? ⟨w.heap.size, 1, none⟩ = some (.int .i64 v) := BC2.cell 1
        clear hb4 hb5
        refine hK _ _ ?_
        clear hK K
        refine wpAny_ready (rs := [5]) (by kernel_rfl) (by simp) ?_
        refine AllReady.cons rfl (fun K hK => ?_) AllReady.nil
        go_simp
        refine hK _ _ ?_
        clear hK K
        refine wpAny_take (i := 6) (v := .bool b) rfl (by kernel_rfl) (by kernel_rfl) (by kernel_rfl) (fun _ _ _ h => h) (Or.inl ⟨by kernel_rfl, fun W => by first | rfl | go_simp⟩) ?_
        simp only [Act.put, List.getElem_toArray, List.getElem_cons_succ, List.getElem_cons_zero, List.setIfInBounds_toArray, List.set_cons_succ, List.set_cons_zero]
        refine wpAny_take (i := 7) (v := .bool b) rfl (by kernel_rfl) (by kernel_rfl) (by kernel_rfl) (fun _ _ _ h => h) (Or.inl ⟨by kernel_rfl, fun W => by first | rfl | go_simp⟩) ?_
        simp only [Act.put, List.getElem_toArray, List.getElem_cons_succ, List.getElem_cons_zero, List.setIfInBounds_toArray, List.set_cons_succ, List.set_cons_zero]
        refine wpAny_done (by kernel_rfl) ?_ _
        try simp only [List.getElem_toArray, List.getElem_cons_succ, List.getElem_cons_zero, List.setIfInBounds_toArray, List.set_cons_succ, List.set_cons_zero]
        go_wp2_with fail
        go_ret
        exact ⟨⟨b, rfl, hiff⟩, L3⟩
      · go_simp
        refine hK _ _ ?_
        clear hK K
        refine wpAny_ready (rs := [3]) (by kernel_rfl) (by simp) ?_
        refine AllReady.cons rfl (fun K hK => ?_) AllReady.nil
        go_simp
        go_at_call 168
        refine (CON.out _).mono ?_
        rintro e w4 ⟨rfl, hb4⟩
        have hb5 := below_undrew hb4
        have L3 := L2.trans (hb5.mono L2.size)
        have BC2 := BC.below hb5 hgc
        have cv2 : w4.cell? ⟨w.heap.size, 1, none⟩ = some (.int .i64 v) := BC2.cell 1
        clear hb4 hb5
        refine hK _ _ ?_
        clear hK K
        refine wpAny_take (i := 6) (v := .bool b) rfl (by kernel_rfl) (by kernel_rfl) (by kernel_rfl) (fun _ _ _ h => h) (Or.inl ⟨by kernel_rfl, fun W => by first | rfl | go_simp⟩) ?_
        simp only [Act.put, List.getElem_toArray, List.getElem_cons_succ, List.getElem_cons_zero, List.setIfInBounds_toArray, List.set_cons_succ, List.set_cons_zero]
        refine wpAny_take (i := 7) (v := .bool b) rfl (by kernel_rfl) (by kernel_rfl) (by kernel_rfl) (fun _ _ _ h => h) (Or.inl ⟨by kernel_rfl, fun W => by first | rfl | go_simp⟩) ?_
        simp only [Act.put, List.getElem_toArray, List.getElem_cons_succ, List.getElem_cons_zero, List.setIfInBounds_toArray, List.set_cons_succ, List.set_cons_zero]
        refine wpAny_done (by kernel_rfl) ?_ _
        try simp only [List.getElem_toArray, List.getElem_cons_succ, List.getElem_cons_zero, List.setIfInBounds_toArray, List.set_cons_succ, List.set_cons_zero]
        go_wp2_with fail
        go_ret
        exact ⟨⟨b, rfl, hiff⟩, L3⟩
    · go_simp
      refine hK _ _ ?_
      clear hK K
      refine wpAny_ready (rs := [2]) (by kernel_rfl) (by simp) ?_
      refine AllReady.cons rfl (fun K hK => ?_) AllReady.nil
      go_simp
      refine hK _ _ ?_
      clear hK K
      refine wpAny_ready (rs := [3]) (by kernel_rfl) (by simp) ?_
      refine AllReady.cons rfl (fun K hK => ?_) AllReady.nil
      go_simp
      go_at_call 168
      refine (CON.out _).mono ?_
      rintro e w4 ⟨rfl, hb4⟩
      have hb5 := below_undrew hb4
      have L3 := L2.trans (hb5.mono L2.size)
      have BC2 := BC.below hb5 hgc
      have cv2 : w4.cell? ⟨w.heap.size, 1, none⟩ = some (.int .i64 v) := BC2.cell 1
      clear hb4 hb5
      refine hK _ _ ?_
      clear hK K
      refine wpAny_take (i := 6) (v := .bool b) rfl (by kernel_rfl) (by kernel_rfl) (by kernel_rfl) (fun _ _ _ h => h) (Or.inl ⟨by kernel_rfl, fun W => by first | rfl | go_simp⟩) ?_
      simp only [Act.put, List.getElem_toArray, List.getElem_cons_succ, List.getElem_cons_zero, List.setIfInBounds_toArray, List.set_cons_succ, List.set_cons_zero]
      refine wpAny_take (i := 7) (v := .bool b) rfl (by kernel_rfl) (by kernel_rfl) (by kernel_rfl) (fun _ _ _ h => h) (Or.inl ⟨by kernel_rfl, fun W => by first | rfl | go_simp⟩) ?_
      simp only [Act.put, List.getElem_toArray, List.getElem_cons_succ, List.getElem_cons_zero, List.setIfInBounds_toArray, List.set_cons_succ, List.set_cons_zero]
      refine wpAny_done (by kernel_rfl) ?_ _
      try simp only [List.getElem_toArray, List.getElem_cons_succ, List.getElem_cons_zero, List.setIfInBounds_toArray, List.set_cons_succ, List.set_cons_zero]
      go_wp2_with fail
      go_ret
      exact ⟨⟨b, rfl, hiff⟩, L3⟩
  · go_simp
    refine hK _ _ ?_
    clear hK K
    refine wpAny_ready (rs := [1, 5]) (by kernel_rfl) (by simp) ?_
    refine AllReady.cons rfl (fun K hK => ?_) (AllReady.cons rfl (fun K hK => ?_) AllReady.nil)
    · go_simp
      refine hK _ _ ?_
      clear hK K
      refine wpAny_ready (rs := [3, 5]) (by kernel_rfl) (by simp) ?_
      refine AllReady.cons rfl (fun K hK => ?_) (AllReady.cons rfl (fun K hK => ?_) AllReady.nil)
      · go_simp
        go_at_call 168
        refine (CON.out _).mono ?_
        rintro e w4 ⟨rfl, hb4⟩
        have hb5 := below_undrew hb4
        have L3 := L2.trans (hb5.mono L2.size)
        have BC2 := BC.below hb5 hgc
        have cv2 : w4.cell? ⟨w.heap.size, 1, none⟩ = some (.int .i64 v) := BC2.cell 1
        clear hb4 hb5
        refine hK _ _ ?_
        clear hK K
        refine wpAny_ready (rs := [5]) (by kernel_rfl) (by simp) ?_
        refine AllReady.cons rfl (fun K hK => ?_) AllReady.nil
        go_simp
        refine hK _ _ ?_
        clear hK K
        refine wpAny_take (i := 6) (v := .bool b) rfl (by kernel_rfl) (by kernel_rfl) (by kernel_rfl) (fun _ _ _ h => h) (Or.inl ⟨by kernel_rfl, fun W => by first | rfl | go_simp⟩) ?_
        simp only [Act.put, List.getElem_toArray, List.getElem_cons_succ, List.getElem_cons_zero, List.setIfInBounds_toArray, List.set_cons_succ, List.set_cons_zero]
        refine wpAny_take (i := 7) (v := .bool b) rfl (by kernel_rfl) (by kernel_rfl) (by kernel_rfl) (fun _ _ _ h => h) (Or.inl ⟨by kernel_rfl, fun W => by first | rfl | go_simp⟩) ?_
        simp only [Act.put, List.getElem_toArray, List.getElem_cons_succ, List.getElem_cons_zero, List.setIfInBounds_toArray, List.set_cons_succ, List.set_cons_zero]
        refine wpAny_done (by kernel_rfl) ?_ _
        try simp only [List.getElem_toArray, List.getElem_cons_succ, List.getElem_cons_zero, List.setIfInBounds_toArray, List.set_cons_succ, List.set_cons_zero]
        go_wp2_with fail
        go_ret
        exact ⟨⟨b, rfl, hiff⟩, L3⟩
      · go_simp
        refine hK _ _ ?_
        clear hK K
        refine wpAny_ready (rs := [3]) (by kernel_rfl) (by simp) ?_
        refine AllReady.cons rfl (fun K hK => ?_) AllReady.nil
        go_simp
        go_at_call 168
        refine (CON.out _).mono ?_
        rintro e w4 ⟨rfl, hb4⟩
        have hb5 := below_undrew hb4
        have L3 := L2.trans (hb5.mono L2.size)
        have BC2 := BC.below hb5 hgc
        have cv2 : w4.cell? ⟨w.heap.size, 1, none⟩ = some (.int .i64 v) := BC2.cell 1
        clear hb4 hb5
        refine hK _ _ ?_
        clear hK K
        refine wpAny_take (i := 6) (v := .bool b) rfl (by kernel_rfl) (by kernel_rfl) (by kernel_rfl) (fun _ _ _ h => h) (Or.inl ⟨by kernel_rfl, fun W => by first | rfl | go_simp⟩) ?_
        simp only [Act.put, List.getElem_toArray, List.getElem_cons_succ, List.getElem_cons_zero, List.setIfInBounds_toArray, List.set_cons_succ, List.set_cons_zero]
        refine wpAny_take (i := 7) (v := .bool b) rfl (by kernel_rfl) (by kernel_rfl) (by kernel_rfl) (fun _ _ _ h => h) (Or.inl ⟨by kernel_rfl, fun W => by first | rfl | go_simp⟩) ?_
        simp only [Act.put, List.getElem_toArray, List.getElem_cons_succ, List.getElem_cons_zero, List.setIfInBounds_toArray, List.set_cons_succ, List.set_cons_zero]
        refine wpAny_done (by kernel_rfl) ?_ _
        try simp only [List.getElem_toArray, List.getElem_cons_succ, List.getElem_cons_zero, List.setIfInBounds_toArray, List.set_cons_succ, List.set_cons_zero]
        go_wp2_with fail
        go_ret
        exact ⟨⟨b, rfl, hiff⟩, L3⟩
    · go_simp
      refine hK _ _ ?_
      clear hK K
      refine wpAny_ready (rs := [1]) (by kernel_rfl) (by simp) ?_
      refine AllReady.cons rfl (fun K hK => ?_) AllReady.nil
      go_simp
      refine hK _ _ ?_
      clear hK K
      refine wpAny_ready (rs := [3]) (by kernel_rfl) (by simp) ?_
      refine AllReady.cons rfl (fun K hK => ?_) AllReady.nil
      go_simp
      go_at_call 168
      refine (CON.out _).mono ?_
      rintro e w4 ⟨rfl, hb4⟩
      have hb5 := below_undrew hb4
      have L3 := L2.trans (hb5.mono L2.size)
      have BC2 := BC.below hb5 hgc
      have cv2 : w4.cell? ⟨w.heap.size, 1, none⟩ = some (.int .i64 v) := BC2.cell 1
      clear hb4 hb5
      refine hK _ _ ?_
      clear hK K
      refine wpAny_take (i := 6) (v := .bool b) rfl (by kernel_rfl) (by kernel_rfl) (by kernel_rfl) (fun _ _ _ h => h) (Or.inl ⟨by kernel_rfl, fun W => by first | rfl | go_simp⟩) ?_
      simp only [Act.put, List.getElem_toArray, List.getElem_cons_succ, List.getElem_cons_zero, List.setIfInBounds_toArray, List.set_cons_succ, List.set_cons_zero]
      refine wpAny_take (i := 7) (v := .bool b) rfl (by kernel_rfl) (by kernel_rfl) (by kernel_rfl) (fun _ _ _ h => h) (Or.inl ⟨by kernel_rfl, fun W => by first | rfl | go_simp⟩) ?_
      simp only [Act.put, List.getElem_toArray, List.getElem_cons_succ, List.getElem_cons_zero, List.setIfInBounds_toArray, List.set_cons_succ, List.set_cons_zero]
      refine wpAny_done (by kernel_rfl) ?_ _
      try simp only [List.getElem_toArray, List.getElem_cons_succ, List.getElem_cons_zero, List.setIfInBounds_toArray, List.set_cons_succ, List.set_cons_zero]
      go_wp2_with fail
      go_ret
      exact ⟨⟨b, rfl, hiff⟩, L3⟩
  · go_simp
    refine hK _ _ ?_
    clear hK K
    refine wpAny_ready (rs := [1, 2]) (by kernel_rfl) (by simp) ?_
    refine AllReady.cons rfl (fun K hK => ?_) (AllReady.cons rfl (fun K hK => ?_) AllReady.nil)
    · go_simp
      refine hK _ _ ?_
      clear hK K
      refine wpAny_ready (rs := [2]) (by kernel_rfl) (by simp) ?_
      refine AllReady.cons rfl (fun K hK => ?_) AllReady.nil
      go_simp
      refine hK _ _ ?_
      clear hK K
      refine wpAny_ready (rs := [3]) (by kernel_rfl) (by simp) ?_
      refine AllReady.cons rfl (fun K hK => ?_) AllReady.nil
      go_simp
      go_at_call 168
      refine (CON.out _).mono ?_
      rintro e w4 ⟨rfl, hb4⟩
      have hb5 := below_undrew hb4
      have L3 := L2.trans (hb5.mono L2.size)
      have BC2 := BC.below hb5 hgc
      have cv2 : w4.cell? ⟨w.heap.size, 1, none⟩ = some (.int .i64 v) := BC2.cell 1
      clear hb4 hb5
      refine hK _ _ ?_
      clear hK K
      refine wpAny_take (i := 6) (v := .bool b) rfl (by kernel_rfl) (by kernel_rfl) (by kernel_rfl) (fun _ _ _ h => h) (Or.inl ⟨by kernel_rfl, fun W => by first | rfl | go_simp⟩) ?_
      simp only [Act.put, List.getElem_toArray, List.getElem_cons_succ, List.getElem_cons_zero, List.setIfInBounds_toArray, List.set_cons_succ, List.set_cons_zero]
      refine wpAny_take (i := 7) (v := .bool b) rfl (by kernel_rfl) (by kernel_rfl) (by kernel_rfl) (fun _ _ _ h => h) (Or.inl ⟨by kernel_rfl, fun W => by first | rfl | go_simp⟩) ?_
      simp only [Act.put, List.getElem_toArray, List.getElem_cons_succ, List.getElem_cons_zero, List.setIfInBounds_toArray, List.set_cons_succ, List.set_cons_zero]
      refine wpAny_done (by kernel_rfl) ?_ _
      try simp only [List.getElem_toArray, List.getElem_cons_succ, List.getElem_cons_zero, List.setIfInBounds_toArray, List.set_cons_succ, List.set_cons_zero]
      go_wp2_with fail
      go_ret
      exact ⟨⟨b, rfl, hiff⟩, L3⟩
    · go_simp
      refine hK _ _ ?_
      clear hK K
      refine wpAny_ready (rs := [1]) (by kernel_rfl) (by simp) ?_
      refine AllReady.cons rfl (fun K hK => ?_) AllReady.nil
      go_simp
      refine hK _ _ ?_
      clear hK K
      refine wpAny_ready (rs := [3]) (by kernel_rfl) (by simp) ?_
      refine AllReady.cons rfl (fun K hK => ?_) AllReady.nil
      go_simp
      go_at_call 168
      refine (CON.out _).mono ?_
      rintro e w4 ⟨rfl, hb4⟩
      have hb5 := below_undrew hb4
      have L3 := L2.trans (hb5.mono L2.size)
      have BC2 := BC.below hb5 hgc
      have cv2 : w4.cell? ⟨w.heap.size, 1, none⟩ = some (.int .i64 v) := BC2.cell 1
      clear hb4 hb5
      refine hK _ _ ?_
      clear hK K
      refine wpAny_take (i := 6) (v := .bool b) rfl (by kernel_rfl) (by kernel_rfl) (by kernel_rfl) (fun _ _ _ h => h) (Or.inl ⟨by kernel_rfl, fun W => by first | rfl | go_simp⟩) ?_
      simp only [Act.put, List.getElem_toArray, List.getElem_cons_succ, List.getElem_cons_zero, List.setIfInBounds_toArray, List.set_cons_succ, List.set_cons_zero]
      refine wpAny_take (i := 7) (v := .bool b) rfl (by kernel_rfl) (by kernel_rfl) (by kernel_rfl) (fun _ _ _ h => h) (Or.inl ⟨by kernel_rfl, fun W => by first | rfl | go_simp⟩) ?_
      simp only [Act.put, List.getElem_toArray, List.getElem_cons_succ, List.getElem_cons_zero, List.setIfInBounds_toArray, List.set_cons_succ, List.set_cons_zero]
      refine wpAny_done (by kernel_rfl) ?_ _
      try simp only [List.getElem_toArray, List.getElem_cons_succ, List.getElem_cons_zero, List.setIfInBounds_toArray, List.set_cons_succ, List.set_cons_zero]
      go_wp2_with fail
      go_ret
      exact ⟨⟨b, rfl, hiff⟩, L3⟩
set_option maxRecDepth 100000 in
set_option maxHeartbeats 4000000 in
theorem i_ho5 (A : Option Addr) (nr C : Nat) (v m : Int) (f : Int) (r d s : Int) (k : ByteArray) (n : Int) (w : World) (h0 : 0 ≤ n) (h1 : n ≤ 730499) :
    Calls Tryz.prog 98 #[.slice A nr C, .agg #[.int .i64 5, .int .i64 v, .int .i64 m, .int .i64 f, .int .i64 r, .int .i64 d, .int .i64 s, .string k], .int .i64 n] w fun e w' => (∃ b, e = .returned (.bool b) ∧ (b = true ↔ (n + 5) % 7 = d)) ∧ Below w.heap.size w w' := by
  have BC0 := (Blk.new w 55 #[.int .i64 5, .int .i64 v, .int .i64 m, .int .i64 f, .int .i64 r, .int .i64 d, .int .i64 s, .string k]).alloc (.cells #[.int .i64 n] 2)
  have BN0 := Blk.new' (w.alloc (.cells #[.int .i64 5, .int .i64 v, .int .i64 m, .int .i64 f, .int .i64 r, .int .i64 d, .int .i64 s, .string k] 55)) 2 #[.int .i64 n] (w.heap.size + 1) (by simp)
  have L0 := below_more (below_alloc w (.cells #[.int .i64 5, .int .i64 v, .int .i64 m, .int .i64 f, .int .i64 r, .int .i64 d, .int .i64 s, .string k] 55)) (by simp) (.cells #[.int .i64 n] 2)
  obtain ⟨Q, hQ⟩ : ∃ p, (n + 5) % 7 = p := ⟨_, rfl⟩
  have con := fun W => i_wday n W h0 (by omega)
  rw [hQ] at con
  rw [hQ]
  clear hQ
  have z5 := BC0.cell 5
  have zn := BN0.cell 0
  clear BC0 BN0
  by_cases hq : Q = d
  · subst hq
    go_enter Tryz.func98, Tryz.ntmps98
    go_wp2_with fail
    go_quiet ((go_at_call 169; exact q1 (con _)))
    go_wp2_with fail
    go_ret
    exact ⟨by first | exact ⟨true, rfl, by simp⟩ | simp, below_drewN L0 _⟩
  · have hf : (Q == d) = false := by simpa using hq
    have hf2 : decide (Q = d) = false := by simpa using hq
    go_enter Tryz.func98, Tryz.ntmps98
    go_wp2_with fail
    go_quiet ((go_at_call 169; exact q1 (con _)))
    go_wp2_with fail
    go_ret
    exact ⟨⟨false, rfl, by simp [hq]⟩, below_drewN L0 _⟩
end Go.Proofs.YtmpgokijlikddaaGreatDoor
