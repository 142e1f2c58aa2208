/- The draw of a word: a text of at most 40 bytes. Condition: how the source lies. -/
import Derived.Test.YtmpgokijlikddaaGreatDoorSrc
import Derived.Test.YtmpgokijlikddaaGreatDoorStrs
import Derived.Deep.RegionWith
namespace Go.Proofs.YtmpgokijlikddaaGreatDoor
set_option linter.unusedSimpArgs false
open Go.RowKit
def wlA : List (List UInt8) := [[], [65, 98, 99], [97, 32, 98], [97, 98, 99, 100, 101, 102, 103, 104, 105, 106, 107, 108, 109, 110, 111, 112, 113, 114, 115, 116, 117], [97, 98, 99, 100, 101, 102, 103, 104, 105, 106, 107, 108, 109, 110, 111, 112, 113, 114, 115, 116]]
def wlB : List (List UInt8) := [[121, 101, 101, 114, 101], [121, 101, 97, 114], [105, 118, 100, 103, 101], [105, 117, 100, 103, 101], [107, 105, 110, 103], [107, 121, 110, 103], [119, 105, 116, 110, 101, 115, 115, 101], [119, 121, 116, 110, 101, 115], [108, 111, 114, 100], [108, 111, 114, 100, 101], [115, 101, 97, 108], [115, 101, 97, 108, 101], [101, 101], [101], [119, 119, 101]]
def wlC : List (List UInt8) := [[97], [101], [121], [118], [115]]
theorem cells_sv {w : World} {b : Nat} {t : TypeId} {l : List (List UInt8)} (h : Blk w b t ⟨l.map sv⟩) (j : Nat) (hj : j < l.length) : w.cell? ⟨b, j, none⟩ = some (.string ⟨(l.getD j []).toArray⟩) := by
  rw [h.cell j]
  simp [hj, sv]
theorem Src.dr {w : World} {g n c : Nat} {a : Option Addr} {xs : List Int} (h : Src w g a n c xs) : Src w.drew g a n c xs := h
theorem Off.drew {g : Nat} {a w : World} (h : Off g a w) : Off g a w.drew := ⟨h.os, h.tape, h.output, h.size, h.block⟩
theorem ba_list (B : ByteArray) : ∃ y : List UInt8, (⟨y.toArray⟩ : ByteArray) = B ∧ y.length = B.size := ⟨B.data.toList, by simp, rfl⟩
theorem three_len (x z : List UInt8) (m : Nat) : ∃ y : List UInt8, (⟨y.toArray⟩ : ByteArray) = (⟨x.toArray⟩ : ByteArray).extract 0 m ++ ⟨z.toArray⟩ ++ (⟨x.toArray⟩ : ByteArray).extract m x.length ∧ y.length ≤ 2 * x.length + z.length := by
  obtain ⟨y, h1, h2⟩ := ba_list ((⟨x.toArray⟩ : ByteArray).extract 0 m ++ ⟨z.toArray⟩ ++ (⟨x.toArray⟩ : ByteArray).extract m x.length)
  refine ⟨y, h1, ?_⟩
  rw [h2, ByteArray.size_append, ByteArray.size_append, ByteArray.size_extract, ByteArray.size_extract]
  have e1 : (⟨x.toArray⟩ : ByteArray).size = x.length := by simp [ByteArray.size]
  have e2 : (⟨z.toArray⟩ : ByteArray).size = z.length := by simp [ByteArray.size]
  rw [e1, e2]
  omega
theorem wlA_len : ∀ j, j < 5 → (wlA.getD j []).length ≤ 21 := by decide
theorem wlB_len : ∀ j, j < 15 → 1 ≤ (wlB.getD j []).length ∧ (wlB.getD j []).length ≤ 8 := by decide
theorem wlC_len : ∀ j, j < 5 → (wlC.getD j []).length = 1 := by decide
theorem wlC_new (w5 : World) (un : Nat) (hun : un < 5) : (w5.alloc (.cells #[.string ⟨#[97]⟩, .string ⟨#[101]⟩, .string ⟨#[121]⟩, .string ⟨#[118]⟩, .string ⟨#[115]⟩] 9)).cell? ⟨w5.heap.size, un, none⟩ = some (.string ⟨(wlC.getD un []).toArray⟩) := cells_sv (l := wlC) (Blk.new w5 _ _) un hun
theorem wlC_old {w4 w5 : World} {g un : Nat} (hO : Off g (w4.alloc (.cells #[.string ⟨#[97]⟩, .string ⟨#[101]⟩, .string ⟨#[121]⟩, .string ⟨#[118]⟩, .string ⟨#[115]⟩] 9)).drew w5) (hg : g < w4.heap.size) (hun : un < 5) : w5.cell? ⟨w4.heap.size, un, none⟩ = some (.string ⟨(wlC.getD un []).toArray⟩) :=
  cells_sv (l := wlC) (hO.blk (Blk.drew (show Blk (w4.alloc (.cells #[.string ⟨#[97]⟩, .string ⟨#[101]⟩, .string ⟨#[121]⟩, .string ⟨#[118]⟩, .string ⟨#[115]⟩] 9)) w4.heap.size 9 ⟨wlC.map sv⟩ from Blk.new w4 _ _)) (by omega)) un hun
set_option maxRecDepth 100000 in
set_option maxHeartbeats 2000000 in
theorem d_word (g n c : Nat) (a : Option Addr) (xs : List Int) (w : World) (hS : Src w g a n c xs) : Calls Tryz.prog 170 #[.pointer (some ⟨g, 0, none⟩)] w fun e w' =>
    (∃ x : List UInt8, e = .returned (.string ⟨x.toArray⟩) ∧ x.length ≤ 40) ∧ Src w' g a n c xs ∧ Off g w w' := by
  have con := d_next g n c a xs 40 w hS
  have hg := hS.lt
  clear hS
  go_enter Tryz.func170, Tryz.ntmps170
  go_wp2_with fail
  refine con.mono ?_
  rintro e w1 ⟨⟨r, rfl, _, hr⟩, hS1, O1⟩
  obtain ⟨r0, r1⟩ := hr (by omega)
  clear con hr
  have hg1 := hS1.lt
  by_cases h0 : r = 0
  · subst h0
    go_wp2_with fail
    refine (d_next _ _ _ _ _ _ _ (hS1.below (below_alloc _ _))).mono ?_
    rintro e w2 ⟨⟨q, rfl, _, hq⟩, hS2, hO⟩
    obtain ⟨q0, q1⟩ := hq (by omega)
    obtain ⟨k, rfl⟩ : ∃ k : Nat, q = k := ⟨q.toNat, by omega⟩
    have O2 := (O1.alloc _).trans hO
    have hB := hO.blk (show Blk _ w1.heap.size 9 ⟨wlA.map sv⟩ from Blk.new w1 _ _) (by omega)
    have c1 := cells_sv hB k (by show k < 5; omega)
    have hl := wlA_len k (by omega)
    have hz := hB.lt
    obtain ⟨x, hx⟩ : ∃ x, wlA.getD k [] = x := ⟨_, rfl⟩
    rw [hx] at c1 hl
    clear hx hB hO O1 hS1 hq
    go_wp2_with fail
    go_ret
    exact ⟨⟨x, rfl, by omega⟩, hS2, O2⟩
  · go_wp2_with fail
    refine (d_next _ _ _ _ _ _ _ (hS1.below (below_alloc _ _))).mono ?_
    rintro e w2 ⟨⟨q, rfl, _, hq⟩, hS2, hO⟩
    obtain ⟨q0, q1⟩ := hq (by omega)
    obtain ⟨k, rfl⟩ : ∃ k : Nat, q = k := ⟨q.toNat, by omega⟩
    have O2 := (O1.alloc _).trans hO
    have hB := hO.blk (show Blk _ w1.heap.size 9 ⟨wlB.map sv⟩ from Blk.new w1 _ _) (by omega)
    have c1 := cells_sv hB k (by show k < 15; omega)
    obtain ⟨hl0, hl⟩ := wlB_len k (by omega)
    have hz := hB.lt
    obtain ⟨x, hx⟩ : ∃ x, wlB.getD k [] = x := ⟨_, rfl⟩
    rw [hx] at c1 hl hl0
    clear hx hB hO O1 hS1 hq
    have hg2 := hS2.lt
    go_wp2_with fail
    refine (d_next _ _ _ _ _ _ _ hS2).mono ?_
    rintro e w3 ⟨⟨p, rfl, _, hp⟩, hS3, hO⟩
    obtain ⟨p0, p1⟩ := hp (by omega)
    have O3 := O2.trans hO
    clear hO hS2 O2 hp
    have hg3 := hS3.lt
    by_cases hp0 : p = 0
    · subst hp0
      go_wp2_with fail
      refine (d_next _ _ _ _ _ _ _ hS3).mono ?_
      rintro e w4 ⟨⟨m, rfl, _, hm⟩, hS4, hO⟩
      obtain ⟨m0, m1⟩ := hm (by omega)
      obtain ⟨mn, rfl⟩ : ∃ k : Nat, m = k := ⟨m.toNat, by omega⟩
      have O4 := O3.trans hO
      clear hO hS3 O3 hm
      have hg4 := hS4.lt
      have hmx : mn ≤ x.length := by omega
      go_wp2_with fail
      refine wp_region_any (by kernel_rfl) ?_
      change wpAny _ _ _ _ _ _ _ (World.drew _)
      refine wpAny_take (i := 0) (v := .string ⟨x.toArray⟩) rfl (by kernel_rfl) (by kernel_rfl) (by kernel_rfl) (fun _ _ _ h => h) (Or.inl ⟨by kernel_rfl, fun W => by first | rfl | go_simp⟩) ?_
      simp only [Act.put, List.getElem_toArray, List.getElem_cons_succ, List.getElem_cons_zero, List.setIfInBounds_toArray, List.set_cons_succ, List.set_cons_zero]
      refine wpAny_take (i := 1) (v := .int .i64 (mn : Int)) rfl (by kernel_rfl) (by kernel_rfl) (by kernel_rfl) (fun _ _ _ h => h) (Or.inl ⟨by kernel_rfl, fun W => by first | rfl | go_simp⟩) ?_
      simp only [Act.put, List.getElem_toArray, List.getElem_cons_succ, List.getElem_cons_zero, List.setIfInBounds_toArray, List.set_cons_succ, List.set_cons_zero]
      refine wpAny_take (i := 2) (v := .string ((⟨x.toArray⟩ : ByteArray).extract 0 mn)) rfl (by kernel_rfl) (by kernel_rfl) (by kernel_rfl) (fun _ _ _ h => h) (Or.inl ⟨by kernel_rfl, fun W => by first | rfl | go_simp⟩) ?_
      simp only [Act.put, List.getElem_toArray, List.getElem_cons_succ, List.getElem_cons_zero, List.setIfInBounds_toArray, List.set_cons_succ, List.set_cons_zero]
      refine wpAny_take (i := 4) (v := .pointer (some ⟨g, 0, none⟩)) rfl (by kernel_rfl) (by kernel_rfl) (by kernel_rfl) (fun _ _ _ h => h) (Or.inl ⟨by kernel_rfl, fun W => by first | rfl | go_simp⟩) ?_
      simp only [Act.put, List.getElem_toArray, List.getElem_cons_succ, List.getElem_cons_zero, List.setIfInBounds_toArray, List.set_cons_succ, List.set_cons_zero]
      refine wpAny_take (i := 9) (v := .string ⟨x.toArray⟩) rfl (by kernel_rfl) (by kernel_rfl) (by kernel_rfl) (fun _ _ _ h => h) (Or.inl ⟨by kernel_rfl, fun W => by first | rfl | go_simp⟩) ?_
      simp only [Act.put, List.getElem_toArray, List.getElem_cons_succ, List.getElem_cons_zero, List.setIfInBounds_toArray, List.set_cons_succ, List.set_cons_zero]
      refine wpAny_take (i := 10) (v := .int .i64 (mn : Int)) rfl (by kernel_rfl) (by kernel_rfl) (by kernel_rfl) (fun _ _ _ h => h) (Or.inl ⟨by kernel_rfl, fun W => by first | rfl | go_simp⟩) ?_
      simp only [Act.put, List.getElem_toArray, List.getElem_cons_succ, List.getElem_cons_zero, List.setIfInBounds_toArray, List.set_cons_succ, List.set_cons_zero]
      refine wpAny_take (i := 11) (v := .string ((⟨x.toArray⟩ : ByteArray).extract mn x.length)) rfl (by kernel_rfl) (by kernel_rfl) (by kernel_rfl) (fun _ _ _ h => h) (Or.inl ⟨by kernel_rfl, fun W => by first | rfl | go_simp⟩) ?_
      simp only [Act.put, List.getElem_toArray, List.getElem_cons_succ, List.getElem_cons_zero, List.setIfInBounds_toArray, List.set_cons_succ, List.set_cons_zero]
      refine wpAny_ready (rs := [3, 5]) (by kernel_rfl) (by simp) ?_
      refine AllReady.cons rfl (fun K hK => ?_) (AllReady.cons rfl (fun K hK => ?_) AllReady.nil)
      · go_simp
        refine hK _ _ ?_
        clear hK K
        refine wpAny_ready (rs := [5]) (by kernel_rfl) (by simp) ?_
        refine AllReady.cons rfl (fun K hK => ?_) AllReady.nil
        go_simp
        go_at_call 65
        refine (d_next g n c a xs 5 _ (Src.dr (hS4.below (below_alloc w4 _)))).mono ?_
        rintro e w5 ⟨⟨u, rfl, _, hu⟩, hS5, hO⟩
        obtain ⟨u0, u1⟩ := hu (by omega)
        obtain ⟨un, rfl⟩ : ∃ k : Nat, u = k := ⟨u.toNat, by omega⟩
        have hun : un < 5 := by omega
        have hzl := wlC_len un hun
        obtain ⟨z, hz⟩ : ∃ z, wlC.getD un [] = z := ⟨_, rfl⟩
        rw [hz] at hzl
        have hs1 : mn ≤ 9223372036854775806 := by omega
        have hs2 : mn + 1 + (x.length - mn) ≤ 9223372036854775807 := by omega
        have c5 := wlC_old hO hg4 hun
        rw [hz] at c5
        refine hK _ _ ?_
        clear hK K
        refine wpAny_take (i := 6) (v := .pointer (some ⟨w4.heap.size, un, none⟩)) rfl (by kernel_rfl) (by kernel_rfl) (by kernel_rfl) (fun _ _ _ h => h) (Or.inl ⟨by kernel_rfl, fun W => by first | rfl | go_simp⟩) ?_
        simp only [Act.put, List.getElem_toArray, List.getElem_cons_succ, List.getElem_cons_zero, List.setIfInBounds_toArray, List.set_cons_succ, List.set_cons_zero]
        refine wpAny_ready (rs := [7]) (by kernel_rfl) (by simp) ?_
        refine AllReady.cons rfl (fun K hK => ?_) AllReady.nil
        go_simp
        refine hK _ _ ?_
        clear hK K
        refine wpAny_take (i := 8) (v := .string ((⟨x.toArray⟩ : ByteArray).extract 0 mn ++ ⟨z.toArray⟩)) rfl (by kernel_rfl) (by kernel_rfl) (by kernel_rfl) (fun _ _ _ h => h) (Or.inl ⟨by kernel_rfl, fun W => by first | rfl | go_simp⟩) ?_
        simp only [Act.put, List.getElem_toArray, List.getElem_cons_succ, List.getElem_cons_zero, List.setIfInBounds_toArray, List.set_cons_succ, List.set_cons_zero]
        refine wpAny_take (i := 12) (v := .string ((⟨x.toArray⟩ : ByteArray).extract 0 mn ++ ⟨z.toArray⟩ ++ (⟨x.toArray⟩ : ByteArray).extract mn x.length)) rfl (by kernel_rfl) (by kernel_rfl) (by kernel_rfl) (fun _ _ _ h => h) (Or.inl ⟨by kernel_rfl, fun W => by first | rfl | go_simp⟩) ?_
        simp only [Act.put, List.getElem_toArray, List.getElem_cons_succ, List.getElem_cons_zero, List.setIfInBounds_toArray, List.set_cons_succ, List.set_cons_zero]
        refine wpAny_take (i := 13) (v := .string ((⟨x.toArray⟩ : ByteArray).extract 0 mn ++ ⟨z.toArray⟩ ++ (⟨x.toArray⟩ : ByteArray).extract mn x.length)) rfl (by kernel_rfl) (by kernel_rfl) (by kernel_rfl) (fun _ _ _ h => h) (Or.inl ⟨by kernel_rfl, fun W => by first | rfl | go_simp⟩) ?_
        simp only [Act.put, List.getElem_toArray, List.getElem_cons_succ, List.getElem_cons_zero, List.setIfInBounds_toArray, List.set_cons_succ, List.set_cons_zero]
        refine wpAny_done (by kernel_rfl) ?_ _
        try simp only [List.getElem_toArray, List.getElem_cons_succ, List.getElem_cons_zero, List.setIfInBounds_toArray, List.set_cons_succ, List.set_cons_zero]
        go_wp2_with fail
        go_ret
        obtain ⟨y, hy, hyl⟩ := three_len x z mn
        exact ⟨⟨y, by rw [hy]; rfl, by omega⟩, hS5, (O4.alloc _).drew.trans hO⟩
      · go_simp
        go_at_call 65
        refine (d_next g n c a xs 5 _ (Src.dr hS4)).mono ?_
        rintro e w5 ⟨⟨u, rfl, _, hu⟩, hS5, hO⟩
        obtain ⟨u0, u1⟩ := hu (by omega)
        obtain ⟨un, rfl⟩ : ∃ k : Nat, u = k := ⟨u.toNat, by omega⟩
        have hun : un < 5 := by omega
        have hzl := wlC_len un hun
        obtain ⟨z, hz⟩ : ∃ z, wlC.getD un [] = z := ⟨_, rfl⟩
        rw [hz] at hzl
        have hs1 : mn ≤ 9223372036854775806 := by omega
        have hs2 : mn + 1 + (x.length - mn) ≤ 9223372036854775807 := by omega
        refine hK _ _ ?_
        clear hK K
        refine wpAny_ready (rs := [3]) (by kernel_rfl) (by simp) ?_
        refine AllReady.cons rfl (fun K hK => ?_) AllReady.nil
        go_simp
        refine hK _ _ ?_
        clear hK K
        have c5 := wlC_new w5 un hun
        rw [hz] at c5
        refine wpAny_take (i := 6) (v := .pointer (some ⟨w5.heap.size, un, none⟩)) rfl (by kernel_rfl) (by kernel_rfl) (by kernel_rfl) (fun _ _ _ h => h) (Or.inl ⟨by kernel_rfl, fun W => by first | rfl | go_simp⟩) ?_
        simp only [Act.put, List.getElem_toArray, List.getElem_cons_succ, List.getElem_cons_zero, List.setIfInBounds_toArray, List.set_cons_succ, List.set_cons_zero]
        refine wpAny_ready (rs := [7]) (by kernel_rfl) (by simp) ?_
        refine AllReady.cons rfl (fun K hK => ?_) AllReady.nil
        go_simp
        refine hK _ _ ?_
        clear hK K
        refine wpAny_take (i := 8) (v := .string ((⟨x.toArray⟩ : ByteArray).extract 0 mn ++ ⟨z.toArray⟩)) rfl (by kernel_rfl) (by kernel_rfl) (by kernel_rfl) (fun _ _ _ h => h) (Or.inl ⟨by kernel_rfl, fun W => by first | rfl | go_simp⟩) ?_
        simp only [Act.put, List.getElem_toArray, List.getElem_cons_succ, List.getElem_cons_zero, List.setIfInBounds_toArray, List.set_cons_succ, List.set_cons_zero]
        refine wpAny_take (i := 12) (v := .string ((⟨x.toArray⟩ : ByteArray).extract 0 mn ++ ⟨z.toArray⟩ ++ (⟨x.toArray⟩ : ByteArray).extract mn x.length)) rfl (by kernel_rfl) (by kernel_rfl) (by kernel_rfl) (fun _ _ _ h => h) (Or.inl ⟨by kernel_rfl, fun W => by first | rfl | go_simp⟩) ?_
        simp only [Act.put, List.getElem_toArray, List.getElem_cons_succ, List.getElem_cons_zero, List.setIfInBounds_toArray, List.set_cons_succ, List.set_cons_zero]
        refine wpAny_take (i := 13) (v := .string ((⟨x.toArray⟩ : ByteArray).extract 0 mn ++ ⟨z.toArray⟩ ++ (⟨x.toArray⟩ : ByteArray).extract mn x.length)) rfl (by kernel_rfl) (by kernel_rfl) (by kernel_rfl) (fun _ _ _ h => h) (Or.inl ⟨by kernel_rfl, fun W => by first | rfl | go_simp⟩) ?_
        simp only [Act.put, List.getElem_toArray, List.getElem_cons_succ, List.getElem_cons_zero, List.setIfInBounds_toArray, List.set_cons_succ, List.set_cons_zero]
        refine wpAny_done (by kernel_rfl) ?_ _
        try simp only [List.getElem_toArray, List.getElem_cons_succ, List.getElem_cons_zero, List.setIfInBounds_toArray, List.set_cons_succ, List.set_cons_zero]
        go_wp2_with fail
        go_ret
        obtain ⟨y, hy, hyl⟩ := three_len x z mn
        exact ⟨⟨y, by rw [hy]; rfl, by omega⟩, hS5.below (below_alloc w5 _), O4.drew.trans (hO.alloc _)⟩
    · go_wp2_with fail
      go_ret
      exact ⟨⟨x, rfl, by omega⟩, hS3, O3⟩
end Go.Proofs.YtmpgokijlikddaaGreatDoor
