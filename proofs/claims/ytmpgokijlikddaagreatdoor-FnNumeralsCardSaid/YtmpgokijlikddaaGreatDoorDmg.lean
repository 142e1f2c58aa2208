/- The draw that changes a text slightly: a text that is little longer. Conditions: how the source lies; a short text. -/
import Derived.Test.YtmpgokijlikddaaGreatDoorDrawW
import Derived.BigQuiet
namespace Go.Proofs.YtmpgokijlikddaaGreatDoor
set_option linter.unusedSimpArgs false
open Go.RowKit
def wl_dm : List (List UInt8) := [[48], [49], [32], [45], [44], [118], [10], [97]]
theorem dm_len : ∀ j, j < 8 → (wl_dm.getD j []).length ≤ 1 := by decide
theorem dm_new (w5 : World) (un : Nat) (hun : un < 8) : (w5.alloc (.cells #[.string ⟨#[48]⟩, .string ⟨#[49]⟩, .string ⟨#[32]⟩, .string ⟨#[45]⟩, .string ⟨#[44]⟩, .string ⟨#[118]⟩, .string ⟨#[10]⟩, .string ⟨#[97]⟩] 9)).cell? ⟨w5.heap.size, un, none⟩ = some (.string ⟨(wl_dm.getD un []).toArray⟩) := cells_sv (l := wl_dm) (Blk.new w5 _ _) un hun
theorem dm_old {w4 w5 : World} {g un : Nat} (hO : Off g (w4.alloc (.cells #[.string ⟨#[48]⟩, .string ⟨#[49]⟩, .string ⟨#[32]⟩, .string ⟨#[45]⟩, .string ⟨#[44]⟩, .string ⟨#[118]⟩, .string ⟨#[10]⟩, .string ⟨#[97]⟩] 9)).drew w5) (hg : g < w4.heap.size) (hun : un < 8) : w5.cell? ⟨w4.heap.size, un, none⟩ = some (.string ⟨(wl_dm.getD un []).toArray⟩) :=
  cells_sv (l := wl_dm) (hO.blk (Blk.drew (show Blk (w4.alloc (.cells #[.string ⟨#[48]⟩, .string ⟨#[49]⟩, .string ⟨#[32]⟩, .string ⟨#[45]⟩, .string ⟨#[44]⟩, .string ⟨#[118]⟩, .string ⟨#[10]⟩, .string ⟨#[97]⟩] 9)) w4.heap.size 9 ⟨wl_dm.map sv⟩ from Blk.new w4 _ _)) (by omega)) un hun
theorem one_len (x : List UInt8) (m : Nat) : ∃ y : List UInt8, (⟨y.toArray⟩ : ByteArray) = (⟨x.toArray⟩ : ByteArray).extract 0 m ∧ y.length ≤ x.length := by
  obtain ⟨y, h1, h2⟩ := ba_list ((⟨x.toArray⟩ : ByteArray).extract 0 m)
  refine ⟨y, h1, ?_⟩
  rw [h2, ByteArray.size_extract]
  have e1 : (⟨x.toArray⟩ : ByteArray).size = x.length := by simp [ByteArray.size]
  rw [e1]
  omega
theorem two_len (x : List UInt8) (m k : Nat) : ∃ y : List UInt8, (⟨y.toArray⟩ : ByteArray) = (⟨x.toArray⟩ : ByteArray).extract 0 m ++ (⟨x.toArray⟩ : ByteArray).extract k x.length ∧ y.length ≤ 2 * x.length := by
  obtain ⟨y, h1, h2⟩ := ba_list ((⟨x.toArray⟩ : ByteArray).extract 0 m ++ (⟨x.toArray⟩ : ByteArray).extract k x.length)
  refine ⟨y, h1, ?_⟩
  rw [h2, ByteArray.size_append, ByteArray.size_extract, ByteArray.size_extract]
  have e1 : (⟨x.toArray⟩ : ByteArray).size = x.length := by simp [ByteArray.size]
  rw [e1]
  omega
set_option maxRecDepth 100000 in
set_option maxHeartbeats 2000000 in
theorem d_damage (g n c : Nat) (a : Option Addr) (xs : List Int) (x : List UInt8) (hx : x.length ≤ 4000) (w : World) (hS : Src w g a n c xs) : Calls Tryz.prog 103 #[.pointer (some ⟨g, 0, none⟩), .string ⟨x.toArray⟩] w fun e w' =>
    (∃ y : List UInt8, e = .returned (.string ⟨y.toArray⟩) ∧ y.length ≤ 2 * x.length + 1) ∧ Src w' g a n c xs ∧ Off g w w' := by
  have con := d_next g n c a xs ((x.length : Int) + 1) w hS
  have hg := hS.lt
  clear hS
  go_enter Tryz.func103, Tryz.ntmps103
  go_wp2_with fail
  refine con.mono ?_
  rintro e w1 ⟨⟨r, rfl, hr1, hr2⟩, hS1, O1⟩
  have hrr : 0 ≤ r ∧ r ≤ x.length := by
    by_cases h1 : (x.length : Int) + 1 ≤ 1
    · have := hr1 h1; omega
    · have := hr2 (by omega); omega
  obtain ⟨r0, r1⟩ := hrr
  obtain ⟨mn, rfl⟩ : ∃ k : Nat, r = k := ⟨r.toNat, by omega⟩
  have hmx : mn ≤ x.length := by omega
  clear con hr1 hr2
  go_wp2_with fail
  refine (d_next g n c a xs 8 _ hS1).mono ?_
  rintro e w4 ⟨⟨p, rfl, _, hp⟩, hS4, hO⟩
  obtain ⟨p0, p1⟩ := hp (by omega)
  have O4 := O1.trans hO
  clear hO hS1 O1 hp
  have hg4 := hS4.lt
  by_cases e0 : p = 0
  · subst e0
    go_wp2_with fail
    go_ret
    obtain ⟨y, hy, hyl⟩ := one_len x mn
    exact ⟨⟨y, by rw [hy]; rfl, by omega⟩, hS4, O4⟩
  · have b0 : (p == 0) = false := by simpa using e0
    by_cases e1 : p = 1
    · subst e1
      go_wp2_with fail
      refine wp_region_any (by kernel_rfl) ?_
      change wpAny _ _ _ _ _ _ _ (World.drew _)
      refine wpAny_take (i := 0) (v := .string ⟨x.toArray⟩) rfl (by kernel_rfl) (by kernel_rfl) (by kernel_rfl) (fun _ _ _ h => h) (Or.inl ⟨by kernel_rfl, fun W => by first | rfl | go_simp⟩) ?_
      simp only [Act.put, List.getElem_toArray, List.getElem_cons_succ, List.getElem_cons_zero, List.setIfInBounds_toArray, List.set_cons_succ, List.set_cons_zero]
      refine wpAny_take (i := 1) (v := .int .i64 (mn : Int)) rfl (by kernel_rfl) (by kernel_rfl) (by kernel_rfl) (fun _ _ _ h => h) (Or.inl ⟨by kernel_rfl, fun W => by first | rfl | go_simp⟩) ?_
      simp only [Act.put, List.getElem_toArray, List.getElem_cons_succ, List.getElem_cons_zero, List.setIfInBounds_toArray, List.set_cons_succ, List.set_cons_zero]
      refine wpAny_take (i := 2) (v := .string ((⟨x.toArray⟩ : ByteArray).extract 0 mn)) rfl (by kernel_rfl) (by kernel_rfl) (by kernel_rfl) (fun _ _ _ h => h) (Or.inl ⟨by kernel_rfl, fun W => by first | rfl | go_simp⟩) ?_
      simp only [Act.put, List.getElem_toArray, List.getElem_cons_succ, List.getElem_cons_zero, List.setIfInBounds_toArray, List.set_cons_succ, List.set_cons_zero]
      refine wpAny_take (i := 4) (v := .pointer (some ⟨g, 0, none⟩)) rfl (by kernel_rfl) (by kernel_rfl) (by kernel_rfl) (fun _ _ _ h => h) (Or.inl ⟨by kernel_rfl, fun W => by first | rfl | go_simp⟩) ?_
      simp only [Act.put, List.getElem_toArray, List.getElem_cons_succ, List.getElem_cons_zero, List.setIfInBounds_toArray, List.set_cons_succ, List.set_cons_zero]
      refine wpAny_take (i := 9) (v := .string ⟨x.toArray⟩) rfl (by kernel_rfl) (by kernel_rfl) (by kernel_rfl) (fun _ _ _ h => h) (Or.inl ⟨by kernel_rfl, fun W => by first | rfl | go_simp⟩) ?_
      simp only [Act.put, List.getElem_toArray, List.getElem_cons_succ, List.getElem_cons_zero, List.setIfInBounds_toArray, List.set_cons_succ, List.set_cons_zero]
      refine wpAny_take (i := 10) (v := .int .i64 (mn : Int)) rfl (by kernel_rfl) (by kernel_rfl) (by kernel_rfl) (fun _ _ _ h => h) (Or.inl ⟨by kernel_rfl, fun W => by first | rfl | go_simp⟩) ?_
      simp only [Act.put, List.getElem_toArray, List.getElem_cons_succ, List.getElem_cons_zero, List.setIfInBounds_toArray, List.set_cons_succ, List.set_cons_zero]
      refine wpAny_take (i := 11) (v := .string ((⟨x.toArray⟩ : ByteArray).extract mn x.length)) rfl (by kernel_rfl) (by kernel_rfl) (by kernel_rfl) (fun _ _ _ h => h) (Or.inl ⟨by kernel_rfl, fun W => by first | rfl | go_simp⟩) ?_
      simp only [Act.put, List.getElem_toArray, List.getElem_cons_succ, List.getElem_cons_zero, List.setIfInBounds_toArray, List.set_cons_succ, List.set_cons_zero]
      refine wpAny_ready (rs := [3, 5]) (by kernel_rfl) (by simp) ?_
      refine AllReady.cons rfl (fun K hK => ?_) (AllReady.cons rfl (fun K hK => ?_) AllReady.nil)
      · go_simp
        refine hK _ _ ?_
        clear hK K
        refine wpAny_ready (rs := [5]) (by kernel_rfl) (by simp) ?_
        refine AllReady.cons rfl (fun K hK => ?_) AllReady.nil
        go_simp
        go_at_call 65
        refine (d_next g n c a xs 8 _ (Src.dr (hS4.below (below_alloc w4 _)))).mono ?_
        rintro e w5 ⟨⟨u, rfl, _, hu⟩, hS5, hO⟩
        obtain ⟨u0, u1⟩ := hu (by omega)
        obtain ⟨un, rfl⟩ : ∃ k : Nat, u = k := ⟨u.toNat, by omega⟩
        have hun : un < 8 := by omega
        have hzl := dm_len un hun
        obtain ⟨z, hz⟩ : ∃ z, wl_dm.getD un [] = z := ⟨_, rfl⟩
        rw [hz] at hzl
        have hs1 : mn + z.length ≤ 9223372036854775807 := by omega
        have hs2 : mn + z.length + (x.length - mn) ≤ 9223372036854775807 := by omega
        have c5 := dm_old hO hg4 hun
        rw [hz] at c5
        refine hK _ _ ?_
        clear hK K
        refine wpAny_take (i := 6) (v := .pointer (some ⟨w4.heap.size, un, none⟩)) rfl (by kernel_rfl) (by kernel_rfl) (by kernel_rfl) (fun _ _ _ h => h) (Or.inl ⟨by kernel_rfl, fun W => by first | rfl | go_simp⟩) ?_
        simp only [Act.put, List.getElem_toArray, List.getElem_cons_succ, List.getElem_cons_zero, List.setIfInBounds_toArray, List.set_cons_succ, List.set_cons_zero]
        refine wpAny_ready (rs := [7]) (by kernel_rfl) (by simp) ?_
        refine AllReady.cons rfl (fun K hK => ?_) AllReady.nil
        go_simp
        refine hK _ _ ?_
        clear hK K
        refine wpAny_take (i := 8) (v := .string ((⟨x.toArray⟩ : ByteArray).extract 0 mn ++ ⟨z.toArray⟩)) rfl (by kernel_rfl) (by kernel_rfl) (by kernel_rfl) (fun _ _ _ h => h) (Or.inl ⟨by kernel_rfl, fun W => by first | rfl | go_simp⟩) ?_
        simp only [Act.put, List.getElem_toArray, List.getElem_cons_succ, List.getElem_cons_zero, List.setIfInBounds_toArray, List.set_cons_succ, List.set_cons_zero]
        refine wpAny_take (i := 12) (v := .string ((⟨x.toArray⟩ : ByteArray).extract 0 mn ++ ⟨z.toArray⟩ ++ (⟨x.toArray⟩ : ByteArray).extract mn x.length)) rfl (by kernel_rfl) (by kernel_rfl) (by kernel_rfl) (fun _ _ _ h => h) (Or.inl ⟨by kernel_rfl, fun W => by first | rfl | go_simp⟩) ?_
        simp only [Act.put, List.getElem_toArray, List.getElem_cons_succ, List.getElem_cons_zero, List.setIfInBounds_toArray, List.set_cons_succ, List.set_cons_zero]
        refine wpAny_take (i := 13) (v := .string ((⟨x.toArray⟩ : ByteArray).extract 0 mn ++ ⟨z.toArray⟩ ++ (⟨x.toArray⟩ : ByteArray).extract mn x.length)) rfl (by kernel_rfl) (by kernel_rfl) (by kernel_rfl) (fun _ _ _ h => h) (Or.inl ⟨by kernel_rfl, fun W => by first | rfl | go_simp⟩) ?_
        simp only [Act.put, List.getElem_toArray, List.getElem_cons_succ, List.getElem_cons_zero, List.setIfInBounds_toArray, List.set_cons_succ, List.set_cons_zero]
        refine wpAny_done (by kernel_rfl) ?_ _
        try simp only [List.getElem_toArray, List.getElem_cons_succ, List.getElem_cons_zero, List.setIfInBounds_toArray, List.set_cons_succ, List.set_cons_zero]
        go_wp2_with fail
        go_ret
        obtain ⟨y, hy, hyl⟩ := three_len x z mn
        exact ⟨⟨y, by rw [hy]; rfl, by omega⟩, hS5, (O4.alloc _).drew.trans hO⟩
      · go_simp
        go_at_call 65
        refine (d_next g n c a xs 8 _ (Src.dr hS4)).mono ?_
        rintro e w5 ⟨⟨u, rfl, _, hu⟩, hS5, hO⟩
        obtain ⟨u0, u1⟩ := hu (by omega)
        obtain ⟨un, rfl⟩ : ∃ k : Nat, u = k := ⟨u.toNat, by omega⟩
        have hun : un < 8 := by omega
        have hzl := dm_len un hun
        obtain ⟨z, hz⟩ : ∃ z, wl_dm.getD un [] = z := ⟨_, rfl⟩
        rw [hz] at hzl
        have hs1 : mn + z.length ≤ 9223372036854775807 := by omega
        have hs2 : mn + z.length + (x.length - mn) ≤ 9223372036854775807 := by omega
        refine hK _ _ ?_
        clear hK K
        refine wpAny_ready (rs := [3]) (by kernel_rfl) (by simp) ?_
        refine AllReady.cons rfl (fun K hK => ?_) AllReady.nil
        go_simp
        refine hK _ _ ?_
        clear hK K
        have c5 := dm_new w5 un hun
        rw [hz] at c5
        refine wpAny_take (i := 6) (v := .pointer (some ⟨w5.heap.size, un, none⟩)) rfl (by kernel_rfl) (by kernel_rfl) (by kernel_rfl) (fun _ _ _ h => h) (Or.inl ⟨by kernel_rfl, fun W => by first | rfl | go_simp⟩) ?_
        simp only [Act.put, List.getElem_toArray, List.getElem_cons_succ, List.getElem_cons_zero, List.setIfInBounds_toArray, List.set_cons_succ, List.set_cons_zero]
        refine wpAny_ready (rs := [7]) (by kernel_rfl) (by simp) ?_
        refine AllReady.cons rfl (fun K hK => ?_) AllReady.nil
        go_simp
        refine hK _ _ ?_
        clear hK K
        refine wpAny_take (i := 8) (v := .string ((⟨x.toArray⟩ : ByteArray).extract 0 mn ++ ⟨z.toArray⟩)) rfl (by kernel_rfl) (by kernel_rfl) (by kernel_rfl) (fun _ _ _ h => h) (Or.inl ⟨by kernel_rfl, fun W => by first | rfl | go_simp⟩) ?_
        simp only [Act.put, List.getElem_toArray, List.getElem_cons_succ, List.getElem_cons_zero, List.setIfInBounds_toArray, List.set_cons_succ, List.set_cons_zero]
        refine wpAny_take (i := 12) (v := .string ((⟨x.toArray⟩ : ByteArray).extract 0 mn ++ ⟨z.toArray⟩ ++ (⟨x.toArray⟩ : ByteArray).extract mn x.length)) rfl (by kernel_rfl) (by kernel_rfl) (by kernel_rfl) (fun _ _ _ h => h) (Or.inl ⟨by kernel_rfl, fun W => by first | rfl | go_simp⟩) ?_
        simp only [Act.put, List.getElem_toArray, List.getElem_cons_succ, List.getElem_cons_zero, List.setIfInBounds_toArray, List.set_cons_succ, List.set_cons_zero]
        refine wpAny_take (i := 13) (v := .string ((⟨x.toArray⟩ : ByteArray).extract 0 mn ++ ⟨z.toArray⟩ ++ (⟨x.toArray⟩ : ByteArray).extract mn x.length)) rfl (by kernel_rfl) (by kernel_rfl) (by kernel_rfl) (fun _ _ _ h => h) (Or.inl ⟨by kernel_rfl, fun W => by first | rfl | go_simp⟩) ?_
        simp only [Act.put, List.getElem_toArray, List.getElem_cons_succ, List.getElem_cons_zero, List.setIfInBounds_toArray, List.set_cons_succ, List.set_cons_zero]
        refine wpAny_done (by kernel_rfl) ?_ _
        try simp only [List.getElem_toArray, List.getElem_cons_succ, List.getElem_cons_zero, List.setIfInBounds_toArray, List.set_cons_succ, List.set_cons_zero]
        go_wp2_with fail
        go_ret
        obtain ⟨y, hy, hyl⟩ := three_len x z mn
        exact ⟨⟨y, by rw [hy]; rfl, by omega⟩, hS5.below (below_alloc w5 _), O4.drew.trans (hO.alloc _)⟩
    · have b1 : (p == 1) = false := by simpa using e1
      by_cases e2 : p = 2
      · subst e2
        by_cases hlt : mn < x.length
        · have hlt' : (mn : Int) < x.length := by omega
          go_wp2_with fail
          go_quiet (fail)
          go_wp2_with fail
          go_ret
          obtain ⟨y, hy, hyl⟩ := two_len x mn (mn + 1)
          exact ⟨⟨y, by rw [hy]; rfl, by omega⟩, hS4, O4.drewN _⟩
        · have hlt' : (x.length : Int) ≤ mn := by omega
          clear hlt
          go_wp2_with fail
          go_ret
          exact ⟨⟨x, rfl, by omega⟩, hS4, O4⟩
      · have b2 : (p == 2) = false := by simpa using e2
        go_wp2_with fail
        go_ret
        exact ⟨⟨x, rfl, by omega⟩, hS4, O4⟩
end Go.Proofs.YtmpgokijlikddaaGreatDoor
