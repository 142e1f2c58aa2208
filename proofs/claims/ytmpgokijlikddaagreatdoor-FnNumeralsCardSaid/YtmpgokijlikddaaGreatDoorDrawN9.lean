/- The draws of numbers and of their words. Condition: how the source lies; how the code lies. -/
import Derived.Test.YtmpgokijlikddaaGreatDoorDmg
import Derived.Test.YtmpgokijlikddaaGreatDoorNumLaw
import Derived.Test.YtmpgokijlikddaaGreatDoorDec
namespace Go.Proofs.YtmpgokijlikddaaGreatDoor
set_option linter.unusedSimpArgs false
open Go.RowKit
theorem cellsN {w : World} {b : Nat} {t : TypeId} {l : List Int} (h : Blk w b t ⟨l.map (Value.int .i64)⟩) (j : Nat) (hj : j < l.length) : w.cell? ⟨b, j, none⟩ = some (.int .i64 (l.getD j 0)) := by
  rw [h.cell j]
  simp [hj]
set_option maxRecDepth 100000 in
set_option maxHeartbeats 1000000 in
theorem d_number (g n c : Nat) (a : Option Addr) (xs : List Int) (w : World) (hS : Src w g a n c xs) : Calls Tryz.prog 108 #[.pointer (some ⟨g, 0, none⟩)] w fun e w' =>
    (∃ m : Int, e = .returned (.int .i64 m) ∧ -1 ≤ m ∧ m ≤ 4000) ∧ Src w' g a n c xs ∧ Off g w w' := by
  have con := d_next g n c a xs 24 w hS
  have hg := hS.lt
  clear hS
  go_enter Tryz.func108, Tryz.ntmps108
  go_wp2_with fail
  refine con.mono ?_
  rintro e w1 ⟨⟨r, rfl, _, hr⟩, hS1, O1⟩
  obtain ⟨r0, r1⟩ := hr (by omega)
  clear con hr
  have hg1 := hS1.lt
  by_cases h0 : r = 0
  · subst h0
    go_wp2_with fail
    refine (d_pick g n c w1.heap.size 5 a xs [-1, 0, 1, 3999, 4000] _ (hS1.below (below_alloc w1 _)) (by omega) (by simp) (by omega) (by omega) (fun j hj => cellsN (l := [-1, 0, 1, 3999, 4000]) (Blk.new w1 _ _) j hj)).mono ?_
    rintro e w2 ⟨⟨j, hj, rfl⟩, hS2, hO⟩
    have O2 := (O1.alloc _).trans hO
    have hm : -1 ≤ [-1, 0, 1, 3999, 4000].getD j (0 : Int) ∧ [-1, 0, 1, 3999, 4000].getD j (0 : Int) ≤ 4000 := by
      match j, hj with
      | 0, _ => simp
      | 1, _ => simp
      | 2, _ => simp
      | 3, _ => simp
      | 4, _ => simp
    obtain ⟨m, hmm⟩ : ∃ m, [-1, 0, 1, 3999, 4000].getD j (0 : Int) = m := ⟨_, rfl⟩
    rw [hmm] at hm ⊢
    clear hmm
    go_wp2_with fail
    go_ret
    exact ⟨⟨m, rfl, hm.1, hm.2⟩, hS2, O2⟩
  · have b0 : (r == 0) = false := by simpa using h0
    go_wp2_with fail
    refine (d_pick g n c w1.heap.size 3 a xs [20, 100, 3999] _ (hS1.below (below_alloc w1 _)) (by omega) (by simp) (by omega) (by omega) (fun j hj => cellsN (l := [20, 100, 3999]) (Blk.new w1 _ _) j hj)).mono ?_
    rintro e w2 ⟨⟨j, hj, rfl⟩, hS2, hO⟩
    have O2 := (O1.alloc _).trans hO
    have hm : 20 ≤ [20, 100, 3999].getD j (0 : Int) ∧ [20, 100, 3999].getD j (0 : Int) ≤ 3999 := by
      match j, hj with
      | 0, _ => simp
      | 1, _ => simp
      | 2, _ => simp
    obtain ⟨m, hmm⟩ : ∃ m, [20, 100, 3999].getD j (0 : Int) = m := ⟨_, rfl⟩
    rw [hmm] at hm ⊢
    clear hmm hO
    go_wp2_with fail
    refine (d_next _ _ _ _ _ _ _ hS2).mono ?_
    rintro e w3 ⟨⟨u, rfl, _, hu⟩, hS3, hO⟩
    obtain ⟨u0, u1⟩ := hu (by omega)
    have O3 := O2.trans hO
    clear hO hu
    go_wp2_with fail
    go_ret
    exact ⟨⟨1 + u, rfl, by omega, by omega⟩, hS3, O3⟩
def wl_nw : List (List UInt8) := [[105], [106], [118], [117], [120], [99], [113], []]
theorem nw_len : ∀ j, j < 8 → (wl_nw.getD j []).length ≤ 1 := by decide
theorem nw_new (w5 : World) (un : Nat) (hun : un < 8) : (w5.alloc (.cells #[.string ⟨#[105]⟩, .string ⟨#[106]⟩, .string ⟨#[118]⟩, .string ⟨#[117]⟩, .string ⟨#[120]⟩, .string ⟨#[99]⟩, .string ⟨#[113]⟩, .string ⟨#[]⟩] 9)).cell? ⟨w5.heap.size, un, none⟩ = some (.string ⟨(wl_nw.getD un []).toArray⟩) := cells_sv (l := wl_nw) (Blk.new w5 _ _) un hun
theorem nw_old {w4 w5 : World} {g un : Nat} (hO : Off g (w4.alloc (.cells #[.string ⟨#[105]⟩, .string ⟨#[106]⟩, .string ⟨#[118]⟩, .string ⟨#[117]⟩, .string ⟨#[120]⟩, .string ⟨#[99]⟩, .string ⟨#[113]⟩, .string ⟨#[]⟩] 9)).drew w5) (hg : g < w4.heap.size) (hun : un < 8) : w5.cell? ⟨w4.heap.size, un, none⟩ = some (.string ⟨(wl_nw.getD un []).toArray⟩) :=
  cells_sv (l := wl_nw) (hO.blk (Blk.drew (show Blk (w4.alloc (.cells #[.string ⟨#[105]⟩, .string ⟨#[106]⟩, .string ⟨#[118]⟩, .string ⟨#[117]⟩, .string ⟨#[120]⟩, .string ⟨#[99]⟩, .string ⟨#[113]⟩, .string ⟨#[]⟩] 9)) w4.heap.size 9 ⟨wl_nw.map sv⟩ from Blk.new w4 _ _)) (by omega)) un hun
set_option maxRecDepth 100000 in
set_option maxHeartbeats 4000000 in
theorem d_nword (g n c : Nat) (a : Option Addr) (xs : List Int) (w : World) (hS : Src w g a n c xs) : Calls Tryz.prog 119 #[.pointer (some ⟨g, 0, none⟩)] w fun e w' =>
    (∃ y : List UInt8, e = .returned (.string ⟨y.toArray⟩) ∧ y.length ≤ 40) ∧ Src w' g a n c xs ∧ Off g w w' := by
  have con := d_number g n c a xs w hS
  have hg := hS.lt
  clear hS
  go_enter Tryz.func119, Tryz.ntmps119
  go_wp2_with fail
  refine con.mono ?_
  rintro e w1 ⟨⟨m, rfl, m0, m1⟩, hS1, O1⟩
  clear con
  have sn := fun W => s_NumeralText m W
  have so := fun W => s_OldNumeral m W
  have ln := numText_len m
  have lo := oldT_len m
  obtain ⟨x1, hx1⟩ : ∃ x, numText m = x := ⟨_, rfl⟩
  obtain ⟨x2, hx2⟩ : ∃ x, oldT m = x := ⟨_, rfl⟩
  rw [hx1] at sn ln
  rw [hx2] at so lo
  have SN := Lib.hid sn
  have SO := Lib.hid so
  clear sn so hx1 hx2
  go_wp2_with fail
  refine (SN.out _).mono ?_
  rintro e w2 ⟨rfl, rfl⟩
  go_wp2_with fail
  refine (d_next _ _ _ _ _ _ _ hS1).mono ?_
  rintro e w2 ⟨⟨p, rfl, _, hp⟩, hS2, hO⟩
  obtain ⟨p0, p1⟩ := hp (by omega)
  have O2 := O1.trans hO
  clear hO hS1 O1 hp SN
  by_cases hp0 : p = 0
  · subst hp0
    go_wp2_with fail
    refine (SO.out _).mono ?_
    rintro e w3 ⟨rfl, hb⟩
    have hS3 := hS2.below hb
    have O3 := O2.trans (Off.of hb)
    obtain ⟨x, hxx⟩ : ∃ x, x2 = x := ⟨_, rfl⟩
    rw [hxx] at lo ⊢
    have hxl := lo
    clear SO hb hS2 O2 ln lo hxx
    go_wp2_with fail
    refine (d_next _ _ _ _ _ _ _ hS3).mono ?_
    rintro e w6 ⟨⟨q, rfl, _, hq⟩, hS6, hO⟩
    obtain ⟨q0, q1⟩ := hq (by omega)
    have O6 := O3.trans hO
    clear hO hS3 O3 hq
    by_cases hq0 : 0 < q
    · go_wp2_with fail
      go_ret
      exact ⟨⟨x, rfl, by omega⟩, hS6, O6⟩
    · have hq1 : q = 0 := by omega
      subst hq1
      clear hq0
      go_wp2_with fail
      refine (d_next g n c a xs ((x.length : Int) + 1) _ hS6).mono ?_
      rintro e w4 ⟨⟨r, rfl, hr1, hr2⟩, hS4, hO⟩
      have hrr : 0 ≤ r ∧ r ≤ x.length := by
        by_cases h1 : (x.length : Int) + 1 ≤ 1
        · have := hr1 h1; omega
        · have := hr2 (by omega); omega
      obtain ⟨r0, r1⟩ := hrr
      obtain ⟨mn, rfl⟩ : ∃ k : Nat, r = k := ⟨r.toNat, by omega⟩
      have hmx : mn ≤ x.length := by omega
      have O4 := O6.trans hO
      clear hO hS6 O6 hr1 hr2
      have hg4 := hS4.lt
      go_wp2_with fail
      refine wp_region_any (by kernel_rfl) ?_
      change wpAny _ _ _ _ _ _ _ (World.drew _)
      refine wpAny_take (i := 0) (v := .string ⟨x.toArray⟩) rfl (by kernel_rfl) (by kernel_rfl) (by kernel_rfl) (fun _ _ _ h => h) (Or.inl ⟨by kernel_rfl, fun W => by first | rfl | go_simp⟩) ?_
      simp only [Act.put, List.getElem_toArray, List.getElem_cons_succ, List.getElem_cons_zero, List.setIfInBounds_toArray, List.set_cons_succ, List.set_cons_zero]
      refine wpAny_take (i := 1) (v := .int .i64 (mn : Int)) rfl (by kernel_rfl) (by kernel_rfl) (by kernel_rfl) (fun _ _ _ h => h) (Or.inl ⟨by kernel_rfl, fun W => by first | rfl | go_simp⟩) ?_
      simp only [Act.put, List.getElem_toArray, List.getElem_cons_succ, List.getElem_cons_zero, List.setIfInBounds_toArray, List.set_cons_succ, List.set_cons_zero]
      refine wpAny_take (i := 2) (v := .string ((⟨x.toArray⟩ : ByteArray).extract 0 mn)) rfl (by kernel_rfl) (by kernel_rfl) (by kernel_rfl) (fun _ _ _ h => h) (Or.inl ⟨by kernel_rfl, fun W => by first | rfl | go_simp⟩) ?_
      simp only [Act.put, List.getElem_toArray, List.getElem_cons_succ, List.getElem_cons_zero, List.setIfInBounds_toArray, List.set_cons_succ, List.set_cons_zero]
      refine wpAny_take (i := 4) (v := .pointer (some ⟨g, 0, none⟩)) rfl (by kernel_rfl) (by kernel_rfl) (by kernel_rfl) (fun _ _ _ h => h) (Or.inl ⟨by kernel_rfl, fun W => by first | rfl | go_simp⟩) ?_
      simp only [Act.put, List.getElem_toArray, List.getElem_cons_succ, List.getElem_cons_zero, List.setIfInBounds_toArray, List.set_cons_succ, List.set_cons_zero]
      refine wpAny_take (i := 9) (v := .string ⟨x.toArray⟩) rfl (by kernel_rfl) (by kernel_rfl) (by kernel_rfl) (fun _ _ _ h => h) (Or.inl ⟨by kernel_rfl, fun W => by first | rfl | go_simp⟩) ?_
      simp only [Act.put, List.getElem_toArray, List.getElem_cons_succ, List.getElem_cons_zero, List.setIfInBounds_toArray, List.set_cons_succ, List.set_cons_zero]
      refine wpAny_take (i := 10) (v := .int .i64 (mn : Int)) rfl (by kernel_rfl) (by kernel_rfl) (by kernel_rfl) (fun _ _ _ h => h) (Or.inl ⟨by kernel_rfl, fun W => by first | rfl | go_simp⟩) ?_
      simp only [Act.put, List.getElem_toArray, List.getElem_cons_succ, List.getElem_cons_zero, List.setIfInBounds_toArray, List.set_cons_succ, List.set_cons_zero]
      refine wpAny_take (i := 11) (v := .string ((⟨x.toArray⟩ : ByteArray).extract mn x.length)) rfl (by kernel_rfl) (by kernel_rfl) (by kernel_rfl) (fun _ _ _ h => h) (Or.inl ⟨by kernel_rfl, fun W => by first | rfl | go_simp⟩) ?_
      simp only [Act.put, List.getElem_toArray, List.getElem_cons_succ, List.getElem_cons_zero, List.setIfInBounds_toArray, List.set_cons_succ, List.set_cons_zero]
      refine wpAny_ready (rs := [3, 5]) (by kernel_rfl) (by simp) ?_
      refine AllReady.cons rfl (fun K hK => ?_) (AllReady.cons rfl (fun K hK => ?_) AllReady.nil)
      · go_simp
        refine hK _ _ ?_
        clear hK K
        refine wpAny_ready (rs := [5]) (by kernel_rfl) (by simp) ?_
        refine AllReady.cons rfl (fun K hK => ?_) AllReady.nil
        go_simp
        go_at_call 65
        refine (d_next g n c a xs 8 _ (Src.dr (hS4.below (below_alloc w4 _)))).mono ?_
        rintro e w5 ⟨⟨u, rfl, _, hu⟩, hS5, hO⟩
        obtain ⟨u0, u1⟩ := hu (by omega)
        obtain ⟨un, rfl⟩ : ∃ k : Nat, u = k := ⟨u.toNat, by omega⟩
        have hun : un < 8 := by omega
        have hzl := nw_len un hun
        obtain ⟨z, hz⟩ : ∃ z, wl_nw.getD un [] = z := ⟨_, rfl⟩
        rw [hz] at hzl
        have hs1 : mn + z.length ≤ 9223372036854775807 := by omega
        have hs2 : mn + z.length + (x.length - mn) ≤ 9223372036854775807 := by omega
        have c5 := nw_old hO hg4 hun
        rw [hz] at c5
        refine hK _ _ ?_
        clear hK K
        refine wpAny_take (i := 6) (v := .pointer (some ⟨w4.heap.size, un, none⟩)) rfl (by kernel_rfl) (by kernel_rfl) (by kernel_rfl) (fun _ _ _ h => h) (Or.inl ⟨by kernel_rfl, fun W => by first | rfl | go_simp⟩) ?_
        simp only [Act.put, List.getElem_toArray, List.getElem_cons_succ, List.getElem_cons_zero, List.setIfInBounds_toArray, List.set_cons_succ, List.set_cons_zero]
        refine wpAny_ready (rs := [7]) (by kernel_rfl) (by simp) ?_
        refine AllReady.cons rfl (fun K hK => ?_) AllReady.nil
        go_simp
        refine hK _ _ ?_
        clear hK K
        refine wpAny_take (i := 8) (v := .string ((⟨x.toArray⟩ : ByteArray).extract 0 mn ++ ⟨z.toArray⟩)) rfl (by kernel_rfl) (by kernel_rfl) (by kernel_rfl) (fun _ _ _ h => h) (Or.inl ⟨by kernel_rfl, fun W => by first | rfl | go_simp⟩) ?_
        simp only [Act.put, List.getElem_toArray, List.getElem_cons_succ, List.getElem_cons_zero, List.setIfInBounds_toArray, List.set_cons_succ, List.set_cons_zero]
        refine wpAny_take (i := 12) (v := .string ((⟨x.toArray⟩ : ByteArray).extract 0 mn ++ ⟨z.toArray⟩ ++ (⟨x.toArray⟩ : ByteArray).extract mn x.length)) rfl (by kernel_rfl) (by kernel_rfl) (by kernel_rfl) (fun _ _ _ h => h) (Or.inl ⟨by kernel_rfl, fun W => by first | rfl | go_simp⟩) ?_
        simp only [Act.put, List.getElem_toArray, List.getElem_cons_succ, List.getElem_cons_zero, List.setIfInBounds_toArray, List.set_cons_succ, List.set_cons_zero]
        refine wpAny_take (i := 13) (v := .string ((⟨x.toArray⟩ : ByteArray).extract 0 mn ++ ⟨z.toArray⟩ ++ (⟨x.toArray⟩ : ByteArray).extract mn x.length)) rfl (by kernel_rfl) (by kernel_rfl) (by kernel_rfl) (fun _ _ _ h => h) (Or.inl ⟨by kernel_rfl, fun W => by first | rfl | go_simp⟩) ?_
        simp only [Act.put, List.getElem_toArray, List.getElem_cons_succ, List.getElem_cons_zero, List.setIfInBounds_toArray, List.set_cons_succ, List.set_cons_zero]
        refine wpAny_done (by kernel_rfl) ?_ _
        try simp only [List.getElem_toArray, List.getElem_cons_succ, List.getElem_cons_zero, List.setIfInBounds_toArray, List.set_cons_succ, List.set_cons_zero]
        go_wp2_with fail
        go_ret
        obtain ⟨y, hy, hyl⟩ := three_len x z mn
        exact ⟨⟨y, by rw [hy]; rfl, by omega⟩, hS5, (O4.alloc _).drew.trans hO⟩
      · go_simp
        go_at_call 65
        refine (d_next g n c a xs 8 _ (Src.dr hS4)).mono ?_
        rintro e w5 ⟨⟨u, rfl, _, hu⟩, hS5, hO⟩
        obtain ⟨u0, u1⟩ := hu (by omega)
        obtain ⟨un, rfl⟩ : ∃ k : Nat, u = k := ⟨u.toNat, by omega⟩
        have hun : un < 8 := by omega
        have hzl := nw_len un hun
        obtain ⟨z, hz⟩ : ∃ z, wl_nw.getD un [] = z := ⟨_, rfl⟩
        rw [hz] at hzl
        have hs1 : mn + z.length ≤ 9223372036854775807 := by omega
        have hs2 : mn + z.length + (x.length - mn) ≤ 9223372036854775807 := by omega
        refine hK _ _ ?_
        clear hK K
        refine wpAny_ready (rs := [3]) (by kernel_rfl) (by simp) ?_
        refine AllReady.cons rfl (fun K hK => ?_) AllReady.nil
        go_simp
        refine hK _ _ ?_
        clear hK K
        have c5 := nw_new w5 un hun
        rw [hz] at c5
        refine wpAny_take (i := 6) (v := .pointer (some ⟨w5.heap.size, un, none⟩)) rfl (by kernel_rfl) (by kernel_rfl) (by kernel_rfl) (fun _ _ _ h => h) (Or.inl ⟨by kernel_rfl, fun W => by first | rfl | go_simp⟩) ?_
        simp only [Act.put, List.getElem_toArray, List.getElem_cons_succ, List.getElem_cons_zero, List.setIfInBounds_toArray, List.set_cons_succ, List.set_cons_zero]
        refine wpAny_ready (rs := [7]) (by kernel_rfl) (by simp) ?_
        refine AllReady.cons rfl (fun K hK => ?_) AllReady.nil
        go_simp
        refine hK _ _ ?_
        clear hK K
        refine wpAny_take (i := 8) (v := .string ((⟨x.toArray⟩ : ByteArray).extract 0 mn ++ ⟨z.toArray⟩)) rfl (by kernel_rfl) (by kernel_rfl) (by kernel_rfl) (fun _ _ _ h => h) (Or.inl ⟨by kernel_rfl, fun W => by first | rfl | go_simp⟩) ?_
        simp only [Act.put, List.getElem_toArray, List.getElem_cons_succ, List.getElem_cons_zero, List.setIfInBounds_toArray, List.set_cons_succ, List.set_cons_zero]
        refine wpAny_take (i := 12) (v := .string ((⟨x.toArray⟩ : ByteArray).extract 0 mn ++ ⟨z.toArray⟩ ++ (⟨x.toArray⟩ : ByteArray).extract mn x.length)) rfl (by kernel_rfl) (by kernel_rfl) (by kernel_rfl) (fun _ _ _ h => h) (Or.inl ⟨by kernel_rfl, fun W => by first | rfl | go_simp⟩) ?_
        simp only [Act.put, List.getElem_toArray, List.getElem_cons_succ, List.getElem_cons_zero, List.setIfInBounds_toArray, List.set_cons_succ, List.set_cons_zero]
        refine wpAny_take (i := 13) (v := .string ((⟨x.toArray⟩ : ByteArray).extract 0 mn ++ ⟨z.toArray⟩ ++ (⟨x.toArray⟩ : ByteArray).extract mn x.length)) rfl (by kernel_rfl) (by kernel_rfl) (by kernel_rfl) (fun _ _ _ h => h) (Or.inl ⟨by kernel_rfl, fun W => by first | rfl | go_simp⟩) ?_
        simp only [Act.put, List.getElem_toArray, List.getElem_cons_succ, List.getElem_cons_zero, List.setIfInBounds_toArray, List.set_cons_succ, List.set_cons_zero]
        refine wpAny_done (by kernel_rfl) ?_ _
        try simp only [List.getElem_toArray, List.getElem_cons_succ, List.getElem_cons_zero, List.setIfInBounds_toArray, List.set_cons_succ, List.set_cons_zero]
        go_wp2_with fail
        go_ret
        obtain ⟨y, hy, hyl⟩ := three_len x z mn
        exact ⟨⟨y, by rw [hy]; rfl, by omega⟩, hS5.below (below_alloc w5 _), O4.drew.trans (hO.alloc _)⟩
  · have bp : (p == 0) = false := by simpa using hp0
    go_wp2_with fail
    obtain ⟨x, hxx⟩ : ∃ x, x1 = x := ⟨_, rfl⟩
    rw [hxx] at ln ⊢
    have hxl := ln
    clear SO ln lo hxx
    refine (d_next _ _ _ _ _ _ _ hS2).mono ?_
    rintro e w6 ⟨⟨q, rfl, _, hq⟩, hS6, hO⟩
    obtain ⟨q0, q1⟩ := hq (by omega)
    have O6 := O2.trans hO
    clear hO hS2 O2 hq
    by_cases hq0 : 0 < q
    · go_wp2_with fail
      go_ret
      exact ⟨⟨x, rfl, by omega⟩, hS6, O6⟩
    · have hq1 : q = 0 := by omega
      subst hq1
      clear hq0
      go_wp2_with fail
      refine (d_next g n c a xs ((x.length : Int) + 1) _ hS6).mono ?_
      rintro e w4 ⟨⟨r, rfl, hr1, hr2⟩, hS4, hO⟩
      have hrr : 0 ≤ r ∧ r ≤ x.length := by
        by_cases h1 : (x.length : Int) + 1 ≤ 1
        · have := hr1 h1; omega
        · have := hr2 (by omega); omega
      obtain ⟨r0, r1⟩ := hrr
      obtain ⟨mn, rfl⟩ : ∃ k : Nat, r = k := ⟨r.toNat, by omega⟩
      have hmx : mn ≤ x.length := by omega
      have O4 := O6.trans hO
      clear hO hS6 O6 hr1 hr2
      have hg4 := hS4.lt
      go_wp2_with fail
      refine wp_region_any (by kernel_rfl) ?_
      change wpAny _ _ _ _ _ _ _ (World.drew _)
      refine wpAny_take (i := 0) (v := .string ⟨x.toArray⟩) rfl (by kernel_rfl) (by kernel_rfl) (by kernel_rfl) (fun _ _ _ h => h) (Or.inl ⟨by kernel_rfl, fun W => by first | rfl | go_simp⟩) ?_
      simp only [Act.put, List.getElem_toArray, List.getElem_cons_succ, List.getElem_cons_zero, List.setIfInBounds_toArray, List.set_cons_succ, List.set_cons_zero]
      refine wpAny_take (i := 1) (v := .int .i64 (mn : Int)) rfl (by kernel_rfl) (by kernel_rfl) (by kernel_rfl) (fun _ _ _ h => h) (Or.inl ⟨by kernel_rfl, fun W => by first | rfl | go_simp⟩) ?_
      simp only [Act.put, List.getElem_toArray, List.getElem_cons_succ, List.getElem_cons_zero, List.setIfInBounds_toArray, List.set_cons_succ, List.set_cons_zero]
      refine wpAny_take (i := 2) (v := .string ((⟨x.toArray⟩ : ByteArray).extract 0 mn)) rfl (by kernel_rfl) (by kernel_rfl) (by kernel_rfl) (fun _ _ _ h => h) (Or.inl ⟨by kernel_rfl, fun W => by first | rfl | go_simp⟩) ?_
      simp only [Act.put, List.getElem_toArray, List.getElem_cons_succ, List.getElem_cons_zero, List.setIfInBounds_toArray, List.set_cons_succ, List.set_cons_zero]
      refine wpAny_take (i := 4) (v := .pointer (some ⟨g, 0, none⟩)) rfl (by kernel_rfl) (by kernel_rfl) (by kernel_rfl) (fun _ _ _ h => h) (Or.inl ⟨by kernel_rfl, fun W => by first | rfl | go_simp⟩) ?_
      simp only [Act.put, List.getElem_toArray, List.getElem_cons_succ, List.getElem_cons_zero, List.setIfInBounds_toArray, List.set_cons_succ, List.set_cons_zero]
      refine wpAny_take (i := 9) (v := .string ⟨x.toArray⟩) rfl (by kernel_rfl) (by kernel_rfl) (by kernel_rfl) (fun _ _ _ h => h) (Or.inl ⟨by kernel_rfl, fun W => by first | rfl | go_simp⟩) ?_
      simp only [Act.put, List.getElem_toArray, List.getElem_cons_succ, List.getElem_cons_zero, List.setIfInBounds_toArray, List.set_cons_succ, List.set_cons_zero]
      refine wpAny_take (i := 10) (v := .int .i64 (mn : Int)) rfl (by kernel_rfl) (by kernel_rfl) (by kernel_rfl) (fun _ _ _ h => h) (Or.inl ⟨by kernel_rfl, fun W => by first | rfl | go_simp⟩) ?_
      simp only [Act.put, List.getElem_toArray, List.getElem_cons_succ, List.getElem_cons_zero, List.setIfInBounds_toArray, List.set_cons_succ, List.set_cons_zero]
      refine wpAny_take (i := 11) (v := .string ((⟨x.toArray⟩ : ByteArray).extract mn x.length)) rfl (by kernel_rfl) (by kernel_rfl) (by kernel_rfl) (fun _ _ _ h => h) (Or.inl ⟨by kernel_rfl, fun W => by first | rfl | go_simp⟩) ?_
      simp only [Act.put, List.getElem_toArray, List.getElem_cons_succ, List.getElem_cons_zero, List.setIfInBounds_toArray, List.set_cons_succ, List.set_cons_zero]
      refine wpAny_ready (rs := [3, 5]) (by kernel_rfl) (by simp) ?_
      refine AllReady.cons rfl (fun K hK => ?_) (AllReady.cons rfl (fun K hK => ?_) AllReady.nil)
      · go_simp
        refine hK _ _ ?_
        clear hK K
        refine wpAny_ready (rs := [5]) (by kernel_rfl) (by simp) ?_
        refine AllReady.cons rfl (fun K hK => ?_) AllReady.nil
        go_simp
        go_at_call 65
        refine (d_next g n c a xs 8 _ (Src.dr (hS4.below (below_alloc w4 _)))).mono ?_
        rintro e w5 ⟨⟨u, rfl, _, hu⟩, hS5, hO⟩
        obtain ⟨u0, u1⟩ := hu (by omega)
        obtain ⟨un, rfl⟩ : ∃ k : Nat, u = k := ⟨u.toNat, by omega⟩
        have hun : un < 8 := by omega
        have hzl := nw_len un hun
        obtain ⟨z, hz⟩ : ∃ z, wl_nw.getD un [] = z := ⟨_, rfl⟩
        rw [hz] at hzl
        have hs1 : mn + z.length ≤ 9223372036854775807 := by omega
        have hs2 : mn + z.length + (x.length - mn) ≤ 9223372036854775807 := by omega
        have c5 := nw_old hO hg4 hun
        rw [hz] at c5
        refine hK _ _ ?_
        clear hK K
        refine wpAny_take (i := 6) (v := .pointer (some ⟨w4.heap.size, un, none⟩)) rfl (by kernel_rfl) (by kernel_rfl) (by kernel_rfl) (fun _ _ _ h => h) (Or.inl ⟨by kernel_rfl, fun W => by first | rfl | go_simp⟩) ?_
        simp only [Act.put, List.getElem_toArray, List.getElem_cons_succ, List.getElem_cons_zero, List.setIfInBounds_toArray, List.set_cons_succ, List.set_cons_zero]
        refine wpAny_ready (rs := [7]) (by kernel_rfl) (by simp) ?_
        refine AllReady.cons rfl (fun K hK => ?_) AllReady.nil
        go_simp
        refine hK _ _ ?_
        clear hK K
        refine wpAny_take (i := 8) (v := .string ((⟨x.toArray⟩ : ByteArray).extract 0 mn ++ ⟨z.toArray⟩)) rfl (by kernel_rfl) (by kernel_rfl) (by kernel_rfl) (fun _ _ _ h => h) (Or.inl ⟨by kernel_rfl, fun W => by first | rfl | go_simp⟩) ?_
        simp only [Act.put, List.getElem_toArray, List.getElem_cons_succ, List.getElem_cons_zero, List.setIfInBounds_toArray, List.set_cons_succ, List.set_cons_zero]
        refine wpAny_take (i := 12) (v := .string ((⟨x.toArray⟩ : ByteArray).extract 0 mn ++ ⟨z.toArray⟩ ++ (⟨x.toArray⟩ : ByteArray).extract mn x.length)) rfl (by kernel_rfl) (by kernel_rfl) (by kernel_rfl) (fun _ _ _ h => h) (Or.inl ⟨by kernel_rfl, fun W => by first | rfl | go_simp⟩) ?_
        simp only [Act.put, List.getElem_toArray, List.getElem_cons_succ, List.getElem_cons_zero, List.setIfInBounds_toArray, List.set_cons_succ, List.set_cons_zero]
        refine wpAny_take (i := 13) (v := .string ((⟨x.toArray⟩ : ByteArray).extract 0 mn ++ ⟨z.toArray⟩ ++ (⟨x.toArray⟩ : ByteArray).extract mn x.length)) rfl (by kernel_rfl) (by kernel_rfl) (by kernel_rfl) (fun _ _ _ h => h) (Or.inl ⟨by kernel_rfl, fun W => by first | rfl | go_simp⟩) ?_
        simp only [Act.put, List.getElem_toArray, List.getElem_cons_succ, List.getElem_cons_zero, List.setIfInBounds_toArray, List.set_cons_succ, List.set_cons_zero]
        refine wpAny_done (by kernel_rfl) ?_ _
        try simp only [List.getElem_toArray, List.getElem_cons_succ, List.getElem_cons_zero, List.setIfInBounds_toArray, List.set_cons_succ, List.set_cons_zero]
        go_wp2_with fail
        go_ret
        obtain ⟨y, hy, hyl⟩ := three_len x z mn
        exact ⟨⟨y, by rw [hy]; rfl, by omega⟩, hS5, (O4.alloc _).drew.trans hO⟩
      · go_simp
        go_at_call 65
        refine (d_next g n c a xs 8 _ (Src.dr hS4)).mono ?_
        rintro e w5 ⟨⟨u, rfl, _, hu⟩, hS5, hO⟩
        obtain ⟨u0, u1⟩ := hu (by omega)
        obtain ⟨un, rfl⟩ : ∃ k : Nat, u = k := ⟨u.toNat, by omega⟩
        have hun : un < 8 := by omega
        have hzl := nw_len un hun
        obtain ⟨z, hz⟩ : ∃ z, wl_nw.getD un [] = z := ⟨_, rfl⟩
        rw [hz] at hzl
        have hs1 : mn + z.length ≤ 9223372036854775807 := by omega
        have hs2 : mn + z.length + (x.length - mn) ≤ 9223372036854775807 := by omega
        refine hK _ _ ?_
        clear hK K
        refine wpAny_ready (rs := [3]) (by kernel_rfl) (by simp) ?_
        refine AllReady.cons rfl (fun K hK => ?_) AllReady.nil
        go_simp
        refine hK _ _ ?_
        clear hK K
        have c5 := nw_new w5 un hun
        rw [hz] at c5
        refine wpAny_take (i := 6) (v := .pointer (some ⟨w5.heap.size, un, none⟩)) rfl (by kernel_rfl) (by kernel_rfl) (by kernel_rfl) (fun _ _ _ h => h) (Or.inl ⟨by kernel_rfl, fun W => by first | rfl | go_simp⟩) ?_
        simp only [Act.put, List.getElem_toArray, List.getElem_cons_succ, List.getElem_cons_zero, List.setIfInBounds_toArray, List.set_cons_succ, List.set_cons_zero]
        refine wpAny_ready (rs := [7]) (by kernel_rfl) (by simp) ?_
        refine AllReady.cons rfl (fun K hK => ?_) AllReady.nil
        go_simp
        refine hK _ _ ?_
        clear hK K
        refine wpAny_take (i := 8) (v := .string ((⟨x.toArray⟩ : ByteArray).extract 0 mn ++ ⟨z.toArray⟩)) rfl (by kernel_rfl) (by kernel_rfl) (by kernel_rfl) (fun _ _ _ h => h) (Or.inl ⟨by kernel_rfl, fun W => by first | rfl | go_simp⟩) ?_
        simp only [Act.put, List.getElem_toArray, List.getElem_cons_succ, List.getElem_cons_zero, List.setIfInBounds_toArray, List.set_cons_succ, List.set_cons_zero]
        refine wpAny_take (i := 12) (v := .string ((⟨x.toArray⟩ : ByteArray).extract 0 mn ++ ⟨z.toArray⟩ ++ (⟨x.toArray⟩ : ByteArray).extract mn x.length)) rfl (by kernel_rfl) (by kernel_rfl) (by kernel_rfl) (fun _ _ _ h => h) (Or.inl ⟨by kernel_rfl, fun W => by first | rfl | go_simp⟩) ?_
        simp only [Act.put, List.getElem_toArray, List.getElem_cons_succ, List.getElem_cons_zero, List.setIfInBounds_toArray, List.set_cons_succ, List.set_cons_zero]
        refine wpAny_take (i := 13) (v := .string ((⟨x.toArray⟩ : ByteArray).extract 0 mn ++ ⟨z.toArray⟩ ++ (⟨x.toArray⟩ : ByteArray).extract mn x.length)) rfl (by kernel_rfl) (by kernel_rfl) (by kernel_rfl) (fun _ _ _ h => h) (Or.inl ⟨by kernel_rfl, fun W => by first | rfl | go_simp⟩) ?_
        simp only [Act.put, List.getElem_toArray, List.getElem_cons_succ, List.getElem_cons_zero, List.setIfInBounds_toArray, List.set_cons_succ, List.set_cons_zero]
        refine wpAny_done (by kernel_rfl) ?_ _
        try simp only [List.getElem_toArray, List.getElem_cons_succ, List.getElem_cons_zero, List.setIfInBounds_toArray, List.set_cons_succ, List.set_cons_zero]
        go_wp2_with fail
        go_ret
        obtain ⟨y, hy, hyl⟩ := three_len x z mn
        exact ⟨⟨y, by rw [hy]; rfl, by omega⟩, hS5.below (below_alloc w5 _), O4.drew.trans (hO.alloc _)⟩
set_option maxRecDepth 100000 in
set_option maxHeartbeats 1000000 in
theorem d_NumeralText (a : Option Addr) (n c : Nat) (xs : List Int) (w : World) (hI : InB w a n xs) (hn : n ≤ 4096) (hx : ∀ i, 0 ≤ xs.getD i 0 ∧ xs.getD i 0 ≤ 255) : Calls Tryz.prog 43 #[.slice a n c] w fun e w' =>
    (∃ m : Int, e = .returned (.int .i64 m) ∧ -1 ≤ m ∧ m ≤ 4000) ∧ Below w.heap.size w w' := by
  have CON := Lib.hid (d_from a n c xs w hI hn hx)
  clear hI hx hn
  go_enter Tryz.func43, Tryz.ntmps43
  go_wp2_with fail
  refine CON.out.mono ?_
  rintro e w1 ⟨rfl, hS1, hb1⟩
  go_wp2_with fail
  refine (d_number _ _ _ _ _ _ hS1).mono ?_
  rintro e w2 ⟨⟨m, rfl, m0, m1⟩, hS2, O2⟩
  have L2 := Off.below hb1 O2 hb1.size (Nat.le_refl _)
  go_wp2_with fail
  go_ret
  exact ⟨⟨m, rfl, m0, m1⟩, L2⟩
set_option maxRecDepth 100000 in
set_option maxHeartbeats 1000000 in
theorem d_ReadNumeral (a : Option Addr) (n c : Nat) (xs : List Int) (w : World) (hI : InB w a n xs) (hn : n ≤ 4096) (hx : ∀ i, 0 ≤ xs.getD i 0 ∧ xs.getD i 0 ≤ 255) : Calls Tryz.prog 48 #[.slice a n c] w fun e w' =>
    (∃ x : List UInt8, e = .returned (.string ⟨x.toArray⟩) ∧ x.length ≤ 40) ∧ Below w.heap.size w w' := by
  have CON := Lib.hid (d_from a n c xs w hI hn hx)
  clear hI hx hn
  go_enter Tryz.func48, Tryz.ntmps48
  go_wp2_with fail
  refine CON.out.mono ?_
  rintro e w1 ⟨rfl, hS1, hb1⟩
  go_wp2_with fail
  refine (d_nword _ _ _ _ _ _ hS1).mono ?_
  rintro e w2 ⟨⟨x, rfl, hl⟩, hS2, O2⟩
  have L2 := Off.below hb1 O2 hb1.size (Nat.le_refl _)
  go_wp2_with fail
  go_ret
  exact ⟨⟨x, rfl, hl⟩, L2⟩
set_option maxRecDepth 100000 in
set_option maxHeartbeats 1000000 in
theorem d_OrdinalText (a : Option Addr) (n c : Nat) (xs : List Int) (w : World) (hI : InB w a n xs) (hn : n ≤ 4096) (hx : ∀ i, 0 ≤ xs.getD i 0 ∧ xs.getD i 0 ≤ 255) : Calls Tryz.prog 51 #[.slice a n c] w fun e w' =>
    (∃ m : Int, e = .returned (.int .i64 m) ∧ -1 ≤ m ∧ m ≤ 32) ∧ Below w.heap.size w w' := by
  have CON := Lib.hid (d_from a n c xs w hI hn hx)
  clear hI hx hn
  go_enter Tryz.func51, Tryz.ntmps51
  go_wp2_with fail
  refine CON.out.mono ?_
  rintro e w1 ⟨rfl, hS1, hb1⟩
  go_wp2_with fail
  refine (d_next _ _ _ _ _ _ _ hS1).mono ?_
  rintro e w2 ⟨⟨u, rfl, -, hu⟩, hS2, O2⟩
  obtain ⟨u0, u1⟩ := hu (by omega)
  have L2 := Off.below hb1 O2 hb1.size (Nat.le_refl _)
  go_wp2_with fail
  go_ret
  exact ⟨⟨u - 1, rfl, by omega, by omega⟩, L2⟩
set_option maxRecDepth 100000 in
set_option maxHeartbeats 1000000 in
theorem d_ReadOrdinal (a : Option Addr) (n c : Nat) (xs : List Int) (w : World) (hI : InB w a n xs) (hn : n ≤ 4096) (hx : ∀ i, 0 ≤ xs.getD i 0 ∧ xs.getD i 0 ≤ 255) : Calls Tryz.prog 53 #[.slice a n c] w fun e w' =>
    (∃ x : List UInt8, e = .returned (.string ⟨x.toArray⟩) ∧ x.length ≤ 41) ∧ Below w.heap.size w w' := by
  have CON := Lib.hid (d_from a n c xs w hI hn hx)
  clear hI hx hn
  go_enter Tryz.func53, Tryz.ntmps53
  go_wp2_with fail
  refine CON.out.mono ?_
  rintro e w1 ⟨rfl, hS1, hb1⟩
  go_wp2_with fail
  refine (d_next _ _ _ _ _ _ _ hS1).mono ?_
  rintro e w2 ⟨⟨u, rfl, -, hu⟩, hS2, O2⟩
  obtain ⟨u0, u1⟩ := hu (by omega)
  have L2 := Off.below hb1 O2 hb1.size (Nat.le_refl _)
  have ot := fun W => s_OrdinalText (1 + u) W
  have lo := ordT_len (1 + u)
  obtain ⟨x, hxx⟩ : ∃ x, ordT (1 + u) = x := ⟨_, rfl⟩
  rw [hxx] at ot lo
  have OT := Lib.hid ot
  clear ot hxx hu O2 hS1 hb1
  go_wp2_with fail
  refine (OT.out _).mono ?_
  rintro e w3 ⟨rfl, hb⟩
  have hS3 := hS2.below hb
  have L3 := below_step L2 hb
  have hz3 := L3.size
  clear OT hb hS2 L2
  go_wp2_with fail
  refine (d_next _ _ _ _ _ _ _ hS3).mono ?_
  rintro e w4 ⟨⟨p, rfl, -, hp⟩, hS4, O4⟩
  obtain ⟨p0, p1⟩ := hp (by omega)
  have L4 := Off.below L3 O4 hz3 (Nat.le_refl _)
  have hz4 := L4.size
  clear hp O4 hS3 L3
  by_cases hp0 : p = 0
  · subst hp0
    go_wp2_with fail
    refine (d_damage _ _ _ _ _ x (by omega) _ hS4).mono ?_
    rintro e w5 ⟨⟨y, rfl, hy⟩, hS5, O5⟩
    have L5 := Off.below L4 O5 hz4 (Nat.le_refl _)
    go_wp2_with fail
    go_ret
    exact ⟨⟨y, rfl, by omega⟩, L5⟩
  · have bp : (p == 0) = false := by simpa using hp0
    go_wp2_with fail
    go_ret
    exact ⟨⟨x, rfl, by omega⟩, L4⟩
set_option maxRecDepth 100000 in
set_option maxHeartbeats 1000000 in
theorem d_ReadNumber (a : Option Addr) (n c : Nat) (xs : List Int) (w : World) (hI : InB w a n xs) (hn : n ≤ 4096) (hx : ∀ i, 0 ≤ xs.getD i 0 ∧ xs.getD i 0 ≤ 255) : Calls Tryz.prog 56 #[.slice a n c] w fun e w' =>
    (∃ x : List UInt8, e = .returned (.string ⟨x.toArray⟩) ∧ x.length ≤ 41) ∧ Below w.heap.size w w' := by
  have CON := Lib.hid (d_from a n c xs w hI hn hx)
  clear hI hx hn
  go_enter Tryz.func56, Tryz.ntmps56
  go_wp2_with fail
  refine CON.out.mono ?_
  rintro e w1 ⟨rfl, hS1, hb1⟩
  go_wp2_with fail
  refine (d_next _ _ _ _ _ _ _ hS1).mono ?_
  rintro e w2 ⟨⟨u, rfl, -, hu⟩, hS2, O2⟩
  obtain ⟨u0, u1⟩ := hu (by omega)
  have L2 := Off.below hb1 O2 hb1.size (Nat.le_refl _)
  have hz2 := L2.size
  clear hu O2 hS1 hb1
  by_cases hu0 : u = 0
  · subst hu0
    go_wp2_with fail
    refine (d_number _ _ _ _ _ _ hS2).mono ?_
    rintro e w3 ⟨⟨m, rfl, m0, m1⟩, hS3, O3⟩
    have L3 := Off.below L2 O3 hz2 (Nat.le_refl _)
    have hz3 := L3.size
    clear O3 hS2 L2
    by_cases hm : 0 ≤ m
    · obtain ⟨k, rfl⟩ : ∃ k : Nat, m = k := ⟨m.toNat, by omega⟩
      have sd := fun W => s_dec k W (by omega)
      have ld : (Lib.decDigits k).length ≤ 20 := by rw [Lib.decDigits_length]; exact Lib.nDigits_le20 _ (by omega)
      obtain ⟨x, hxx⟩ : ∃ x, Lib.decDigits k = x := ⟨_, rfl⟩
      rw [hxx] at sd ld
      have SD := Lib.hid sd
      clear sd hxx
      have hmax : max (0 : Int) k = k := by omega
      go_wp2_with fail
      all_goals (first | (refine (SD.out _).mono ?_) | skip)
      rintro e w4 ⟨rfl, hb⟩
      have hS4 := hS3.below hb
      have L4 := below_step L3 hb
      have hz4 := L4.size
      go_wp2_with fail
      refine (d_damage _ _ _ _ _ x (by omega) _ hS4).mono ?_
      rintro e w5 ⟨⟨y, rfl, hy⟩, hS5, O5⟩
      have L5 := Off.below L4 O5 hz4 (Nat.le_refl _)
      go_wp2_with fail
      go_ret
      exact ⟨⟨y, rfl, by omega⟩, L5⟩
    · have sd := fun W => s_dec 0 W (by omega)
      have ld : (Lib.decDigits 0).length ≤ 20 := by rw [Lib.decDigits_length]; exact Lib.nDigits_le20 _ (by omega)
      obtain ⟨x, hxx⟩ : ∃ x, Lib.decDigits 0 = x := ⟨_, rfl⟩
      rw [hxx] at sd ld
      have SD := Lib.hid sd
      clear sd hxx
      have hmax : max (0 : Int) m = 0 := by omega
      have hm' : m < 0 := by omega
      clear hm
      go_wp2_with fail
      all_goals (first | (refine (SD.out _).mono ?_) | skip)
      rintro e w4 ⟨rfl, hb⟩
      have hS4 := hS3.below hb
      have L4 := below_step L3 hb
      have hz4 := L4.size
      go_wp2_with fail
      refine (d_damage _ _ _ _ _ x (by omega) _ hS4).mono ?_
      rintro e w5 ⟨⟨y, rfl, hy⟩, hS5, O5⟩
      have L5 := Off.below L4 O5 hz4 (Nat.le_refl _)
      go_wp2_with fail
      go_ret
      exact ⟨⟨y, rfl, by omega⟩, L5⟩
  · have bu : (u == 0) = false := by simpa using hu0
    go_wp2_with fail
    refine (d_nword _ _ _ _ _ _ hS2).mono ?_
    rintro e w3 ⟨⟨x, rfl, hl⟩, hS3, O3⟩
    have L3 := Off.below L2 O3 hz2 (Nat.le_refl _)
    go_wp2_with fail
    go_ret
    exact ⟨⟨x, rfl, by omega⟩, L3⟩
end Go.Proofs.YtmpgokijlikddaaGreatDoor
