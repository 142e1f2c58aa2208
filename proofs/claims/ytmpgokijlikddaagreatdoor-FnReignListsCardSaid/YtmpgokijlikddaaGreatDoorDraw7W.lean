/- The draw of a list of reigns: the walk. Printed by gen_draw7.py. Condition: the source lies as told. -/
import Derived.Test.YtmpgokijlikddaaGreatDoorRl7
namespace Go.Proofs.YtmpgokijlikddaaGreatDoor
open Go.RowKit
theorem Src.undrew7 {w : World} {g n c : Nat} {a : Option Addr} {xs : List Int} (h : Src w g a n c xs) : Src w.drew g a n c xs := h
theorem Off.drew7 {g : Nat} {a w : World} (h : Off g a w) : Off g a w.drew := ⟨h.os, h.tape, h.output, h.size, h.block⟩
theorem own_someR {w : World} {b : Nat} {v : Value} {l : List RG} (h : OwnR w b v l) (hl : 0 < l.length) : v ≠ .slice none 0 0 := by
  obtain ⟨_, A, c, rfl, P⟩ := h.opened
  obtain ⟨g, rfl, _⟩ := P hl
  simp
set_option maxRecDepth 100000 in
set_option maxHeartbeats 4000000 in
set_option linter.unusedSimpArgs false in
theorem d_draw7 (g n c : Nat) (a : Option Addr) (xs : List Int) (w : World) (hS : Src w g a n c xs) : Calls Tryz.prog 64 #[.pointer (some ⟨g, 0, none⟩)] w fun e w' =>
    (∃ v rs, e = .returned v ∧ OwnR w' w.heap.size v rs ∧ rs.length ≤ 31 ∧ (∀ r ∈ rs, rgB r) ∧ v ≠ .slice none 0 0) ∧ Src w' g a n c xs ∧ Off g w w' := by
  have hg := hS.lt
  go_enter Tryz.func64, Tryz.ntmps64
  go_wp2_with fail
  refine (d_next _ _ _ _ _ _ _ (hS.below (below_alloc w _))).mono ?_
  rintro e w1 ⟨⟨r0, rfl, -, hr⟩, hS1, hO⟩
  obtain ⟨r0a, r0b⟩ := hr (by omega)
  have O1 := ((Off.refl g w).alloc _).trans hO
  have V1 := (OwnR.lit0 w).off hO hg
  clear hO hr
  go_wp2_with fail
  go_loopw [3, 4] (fun o q wr => ∃ (k : Nat) (rs : List RG), q = .int .i64 k ∧ k ≤ 5 ∧ rs.length + k ≤ 5 ∧ (∀ r ∈ rs, rgB r) ∧ OwnR wr w.heap.size o rs ∧ Src wr g a n c xs ∧ Off g w wr ∧ o ≠ .slice none 0 0) (fun _ q _ => (intOf q).toNat)
  case atStart => exact ⟨r0.toNat, [], by rw [Int.toNat_of_nonneg r0a], by omega, by simp; omega, by simp, V1, hS1, O1, by simp⟩
  case round =>
    clear V1 hS1 O1
    obtain ⟨k, rs, rfl, hk5, hlen, hrs, V, hS2, O2, hne⟩ := hrel
    by_cases hk : 0 < k
    · as_aux_lemma =>
      have hk' : (0 : Int) < k := by omega
      clear hne
      obtain ⟨-, A, cc, rfl, -⟩ := V.opened
      go_wp2_with fail
      refine (d_reign _ _ _ _ _ _ hS2).mono ?_
      rintro e w2 ⟨⟨s, f, t, rfl, hs, f0, f1, t0, t1⟩, hS3, hO⟩
      obtain ⟨sl, rfl⟩ : ∃ sl : List UInt8, s = ⟨sl.toArray⟩ := ⟨s.data.toList, by cases s; simp⟩
      have hsl : sl.length ≤ 20 := by simpa [ByteArray.size] using hs
      have V3 := (V.off hO hg).alloc (.cells #[.string ⟨sl.toArray⟩, .int .i64 f, .int .i64 t] 90)
      have hS4 := hS3.below (below_alloc w2 (.cells #[.string ⟨sl.toArray⟩, .int .i64 f, .int .i64 t] 90))
      have O4 := (O2.trans hO).alloc (.cells #[.string ⟨sl.toArray⟩, .int .i64 f, .int .i64 t] 90)
      have hz4 := O4.size
      have X := Blk.new w2 90 #[.string ⟨sl.toArray⟩, .int .i64 f, .int .i64 t]
      have x0 := X.c0
      have x1 := X.c1
      have x2 := X.c2
      clear V hS2 O2 hS3 hO hs X
      go_wp2_with (at_builtin; refine Hid.out ?_)
      refine Lib.hid ?_
      refine wpList_appR rfl _ _ rfl _ w.heap.size _ rs (sl, f, t) ?_ V3 (w2.heap.size + 1) (by simp) ?_ (by omega) hz4 ?_
      · rfl
      · rfl
      intro v5 w5 V5 hg5
      go_wp2_with fail
      have hS5 := hS4.own hS hg5 (fun k hk => (V3.lt k hk).1)
      have O5 := O4.own hg5 (fun k hk => (V3.lt k hk).1)
      have hrs5 : ∀ r ∈ rs ++ [((sl, f, t) : RG)], rgB r := by
        intro r hr
        rcases List.mem_append.1 hr with hr | hr
        · exact hrs r hr
        · obtain rfl := List.mem_singleton.1 hr
          exact ⟨hsl, f0, f1, t0, t1⟩
      have hl5 : (rs ++ [((sl, f, t) : RG)]).length = rs.length + 1 := by simp
      obtain ⟨-, A5, c5, rfl, P5⟩ := V5.opened
      obtain ⟨G, rfl, hGb, -, -⟩ := P5 (by omega)
      rw [hl5] at V5 ⊢
      obtain ⟨L, hL⟩ : ∃ L, rs.length + 1 = L := ⟨_, rfl⟩
      rw [hL] at V5 hl5 ⊢
      clear P5 V3 hS4 O4 hg5 x0 x1 x2 hrs
      go_loopw [6] (fun q wr => ∃ (j : Nat) (ts : List RG), q = .int .i64 j ∧ j < ts.length ∧ ts.length = L ∧ (∀ r ∈ ts, rgB r) ∧ OwnR wr w.heap.size (.slice (some ⟨G, 0, none⟩) L c5) ts ∧ Src wr g a n c xs ∧ Off g w wr) (fun q _ => (intOf q).toNat)
      case atStart => exact ⟨rs.length, _, rfl, by omega, hl5, hrs5, V5, hS5, O5⟩
      case round =>
        clear V5 hS5 O5 hrs5
        obtain ⟨j, ts, rfl, hj, hts5, hts, O6, hS6, F6⟩ := hrel
        have hz6 := F6.size
        by_cases hj0 : j = 0
        · subst hj0
          go_wp2_with fail
          refine wp_region_any (by kernel_rfl) ?_
          change wpAny _ _ _ _ _ _ _ (World.drew _)
          refine wpAny_take (i := 0) (v := .int .i64 0) rfl (by kernel_rfl) (by kernel_rfl) (by kernel_rfl) (fun _ _ _ h => h) (Or.inl ⟨by kernel_rfl, fun W => by first | rfl | go_simp⟩) ?_
          simp only [Act.put, List.getElem_toArray, List.getElem_cons_succ, List.getElem_cons_zero, List.setIfInBounds_toArray, List.set_cons_succ, List.set_cons_zero]
          refine wpAny_take (i := 1) (v := .bool false) rfl (by kernel_rfl) (by kernel_rfl) (by kernel_rfl) (fun _ _ _ h => h) (Or.inl ⟨by kernel_rfl, fun W => by first | rfl | go_simp⟩) ?_
          simp only [Act.put, List.getElem_toArray, List.getElem_cons_succ, List.getElem_cons_zero, List.setIfInBounds_toArray, List.set_cons_succ, List.set_cons_zero]
          refine wpAny_take (i := 2) (v := .bool false) rfl (by kernel_rfl) (by kernel_rfl) (by kernel_rfl) (fun _ _ _ h => h) (Or.inl ⟨by kernel_rfl, fun W => by first | rfl | go_simp⟩) ?_
          simp only [Act.put, List.getElem_toArray, List.getElem_cons_succ, List.getElem_cons_zero, List.setIfInBounds_toArray, List.set_cons_succ, List.set_cons_zero]
          refine wpAny_take (i := 3) (v := undef) rfl (by kernel_rfl) (by kernel_rfl) (by kernel_rfl) (fun _ _ _ h => h) (Or.inr ⟨by kernel_rfl, rfl⟩) ?_
          simp only [Act.put, List.getElem_toArray, List.getElem_cons_succ, List.getElem_cons_zero, List.setIfInBounds_toArray, List.set_cons_succ, List.set_cons_zero]
          refine wpAny_take (i := 4) (v := undef) rfl (by kernel_rfl) (by kernel_rfl) (by kernel_rfl) (fun _ _ _ h => h) (Or.inr ⟨by kernel_rfl, rfl⟩) ?_
          simp only [Act.put, List.getElem_toArray, List.getElem_cons_succ, List.getElem_cons_zero, List.setIfInBounds_toArray, List.set_cons_succ, List.set_cons_zero]
          refine wpAny_take (i := 5) (v := undef) rfl (by kernel_rfl) (by kernel_rfl) (by kernel_rfl) (fun _ _ _ h => h) (Or.inr ⟨by kernel_rfl, rfl⟩) ?_
          simp only [Act.put, List.getElem_toArray, List.getElem_cons_succ, List.getElem_cons_zero, List.setIfInBounds_toArray, List.set_cons_succ, List.set_cons_zero]
          refine wpAny_take (i := 6) (v := undef) rfl (by kernel_rfl) (by kernel_rfl) (by kernel_rfl) (fun _ _ _ h => h) (Or.inr ⟨by kernel_rfl, rfl⟩) ?_
          simp only [Act.put, List.getElem_toArray, List.getElem_cons_succ, List.getElem_cons_zero, List.setIfInBounds_toArray, List.set_cons_succ, List.set_cons_zero]
          refine wpAny_take (i := 7) (v := undef) rfl (by kernel_rfl) (by kernel_rfl) (by kernel_rfl) (fun _ _ _ h => h) (Or.inr ⟨by kernel_rfl, rfl⟩) ?_
          simp only [Act.put, List.getElem_toArray, List.getElem_cons_succ, List.getElem_cons_zero, List.setIfInBounds_toArray, List.set_cons_succ, List.set_cons_zero]
          refine wpAny_take (i := 8) (v := undef) rfl (by kernel_rfl) (by kernel_rfl) (by kernel_rfl) (fun _ _ _ h => h) (Or.inr ⟨by kernel_rfl, rfl⟩) ?_
          simp only [Act.put, List.getElem_toArray, List.getElem_cons_succ, List.getElem_cons_zero, List.setIfInBounds_toArray, List.set_cons_succ, List.set_cons_zero]
          refine wpAny_take (i := 9) (v := undef) rfl (by kernel_rfl) (by kernel_rfl) (by kernel_rfl) (fun _ _ _ h => h) (Or.inr ⟨by kernel_rfl, rfl⟩) ?_
          simp only [Act.put, List.getElem_toArray, List.getElem_cons_succ, List.getElem_cons_zero, List.setIfInBounds_toArray, List.set_cons_succ, List.set_cons_zero]
          refine wpAny_take (i := 10) (v := undef) rfl (by kernel_rfl) (by kernel_rfl) (by kernel_rfl) (fun _ _ _ h => h) (Or.inr ⟨by kernel_rfl, rfl⟩) ?_
          simp only [Act.put, List.getElem_toArray, List.getElem_cons_succ, List.getElem_cons_zero, List.setIfInBounds_toArray, List.set_cons_succ, List.set_cons_zero]
          refine wpAny_take (i := 11) (v := undef) rfl (by kernel_rfl) (by kernel_rfl) (by kernel_rfl) (fun _ _ _ h => h) (Or.inr ⟨by kernel_rfl, rfl⟩) ?_
          simp only [Act.put, List.getElem_toArray, List.getElem_cons_succ, List.getElem_cons_zero, List.setIfInBounds_toArray, List.set_cons_succ, List.set_cons_zero]
          refine wpAny_take (i := 12) (v := undef) rfl (by kernel_rfl) (by kernel_rfl) (by kernel_rfl) (fun _ _ _ h => h) (Or.inr ⟨by kernel_rfl, rfl⟩) ?_
          simp only [Act.put, List.getElem_toArray, List.getElem_cons_succ, List.getElem_cons_zero, List.setIfInBounds_toArray, List.set_cons_succ, List.set_cons_zero]
          refine wpAny_take (i := 13) (v := undef) rfl (by kernel_rfl) (by kernel_rfl) (by kernel_rfl) (fun _ _ _ h => h) (Or.inr ⟨by kernel_rfl, rfl⟩) ?_
          simp only [Act.put, List.getElem_toArray, List.getElem_cons_succ, List.getElem_cons_zero, List.setIfInBounds_toArray, List.set_cons_succ, List.set_cons_zero]
          refine wpAny_take (i := 14) (v := undef) rfl (by kernel_rfl) (by kernel_rfl) (by kernel_rfl) (fun _ _ _ h => h) (Or.inr ⟨by kernel_rfl, rfl⟩) ?_
          simp only [Act.put, List.getElem_toArray, List.getElem_cons_succ, List.getElem_cons_zero, List.setIfInBounds_toArray, List.set_cons_succ, List.set_cons_zero]
          refine wpAny_take (i := 15) (v := .bool false) rfl (by kernel_rfl) (by kernel_rfl) (by kernel_rfl) (fun _ _ _ h => h) (Or.inl ⟨by kernel_rfl, fun W => by first | rfl | go_simp⟩) ?_
          simp only [Act.put, List.getElem_toArray, List.getElem_cons_succ, List.getElem_cons_zero, List.setIfInBounds_toArray, List.set_cons_succ, List.set_cons_zero]
          refine wpAny_take (i := 16) (v := .bool false) rfl (by kernel_rfl) (by kernel_rfl) (by kernel_rfl) (fun _ _ _ h => h) (Or.inl ⟨by kernel_rfl, fun W => by first | rfl | go_simp⟩) ?_
          simp only [Act.put, List.getElem_toArray, List.getElem_cons_succ, List.getElem_cons_zero, List.setIfInBounds_toArray, List.set_cons_succ, List.set_cons_zero]
          refine wpAny_take (i := 17) (v := undef) rfl (by kernel_rfl) (by kernel_rfl) (by kernel_rfl) (fun _ _ _ h => h) (Or.inr ⟨by kernel_rfl, rfl⟩) ?_
          simp only [Act.put, List.getElem_toArray, List.getElem_cons_succ, List.getElem_cons_zero, List.setIfInBounds_toArray, List.set_cons_succ, List.set_cons_zero]
          refine wpAny_take (i := 18) (v := undef) rfl (by kernel_rfl) (by kernel_rfl) (by kernel_rfl) (fun _ _ _ h => h) (Or.inr ⟨by kernel_rfl, rfl⟩) ?_
          simp only [Act.put, List.getElem_toArray, List.getElem_cons_succ, List.getElem_cons_zero, List.setIfInBounds_toArray, List.set_cons_succ, List.set_cons_zero]
          refine wpAny_take (i := 19) (v := undef) rfl (by kernel_rfl) (by kernel_rfl) (by kernel_rfl) (fun _ _ _ h => h) (Or.inr ⟨by kernel_rfl, rfl⟩) ?_
          simp only [Act.put, List.getElem_toArray, List.getElem_cons_succ, List.getElem_cons_zero, List.setIfInBounds_toArray, List.set_cons_succ, List.set_cons_zero]
          refine wpAny_take (i := 20) (v := .bool false) rfl (by kernel_rfl) (by kernel_rfl) (by kernel_rfl) (fun _ _ _ h => h) (Or.inl ⟨by kernel_rfl, fun W => by first | rfl | go_simp⟩) ?_
          simp only [Act.put, List.getElem_toArray, List.getElem_cons_succ, List.getElem_cons_zero, List.setIfInBounds_toArray, List.set_cons_succ, List.set_cons_zero]
          refine wpAny_done (by kernel_rfl) ?_ _
          try simp only [List.getElem_toArray, List.getElem_cons_succ, List.getElem_cons_zero, List.setIfInBounds_toArray, List.set_cons_succ, List.set_cons_zero]
          go_wp2_with fail
          go_roundw
          case rel => exact ⟨k - 1, ts, by go_num, by omega, by omega, hts, O6.drew, hS6.undrew7, F6.drew7, by simp⟩
          case measure => first | (simp [intOf]; done) | (simp [intOf]; omega)
        · obtain ⟨i, rfl⟩ : ∃ i, j = i + 1 := ⟨j - 1, by omega⟩
          clear hj0
          obtain ⟨hGb', hGl, a0, a1, a2, hfr⟩ := O6.atG (i + 1) hj
          obtain ⟨-, -, b0, b1, b2, -⟩ := O6.atG i (by omega)
          have hiL : (i : Int) + 1 < L := by omega
          obtain ⟨y1, hy1⟩ : ∃ y, ts.getD (i + 1) rg0 = y := ⟨_, rfl⟩
          obtain ⟨y0, hy0⟩ : ∃ y, ts.getD i rg0 = y := ⟨_, rfl⟩
          rw [hy1] at a0 a1 a2
          rw [hy0] at b0 b1 b2
          obtain ⟨X1, F1, T1⟩ := y1
          obtain ⟨X0, F0, T0⟩ := y0
          dsimp only at a0 a1 a2 b0 b1 b2
          have hsub : IntKind.i64.wrap (((i + 1 : Nat) : Int) - 1) = (i : Int) := by rw [IntWalk.i64_in _ (by omega)]; omega
          have hsub2 : IntKind.i64.wrap ((i : Int) + 1 - 1) = (i : Int) := by rw [IntWalk.i64_in _ (by omega)]; omega
          have hsub3 : IntKind.i64.wrap (i : Int) = (i : Int) := IntWalk.i64_in _ (by omega)
          have hneg : ¬ (i : Int) + 1 < 0 := by omega
          have hneg2 : ¬ (i : Int) < 0 := by omega
          have hnL : ¬ L ≤ i := by omega
          have hnL2 : ¬ L ≤ i + 1 := by omega
          by_cases hlt : F1 < F0
          · as_aux_lemma =>
            go_wp2_with fail
            refine wp_region_any (by kernel_rfl) ?_
            change wpAny _ _ _ _ _ _ _ (World.drew _)
            refine wpAny_take (i := 0) (v := .int .i64 ((i + 1 : Nat) : Int)) rfl (by kernel_rfl) (by kernel_rfl) (by kernel_rfl) (fun _ _ _ h => h) (Or.inl ⟨by kernel_rfl, fun W => by first | rfl | go_simp⟩) ?_
            simp only [Act.put, List.getElem_toArray, List.getElem_cons_succ, List.getElem_cons_zero, List.setIfInBounds_toArray, List.set_cons_succ, List.set_cons_zero]
            refine wpAny_take (i := 1) (v := .bool true) rfl (by kernel_rfl) (by kernel_rfl) (by kernel_rfl) (fun _ _ _ h => h) (Or.inl ⟨by kernel_rfl, fun W => by first | rfl | go_simp⟩) ?_
            simp only [Act.put, List.getElem_toArray, List.getElem_cons_succ, List.getElem_cons_zero, List.setIfInBounds_toArray, List.set_cons_succ, List.set_cons_zero]
            refine wpAny_take (i := 2) (v := .bool true) rfl (by kernel_rfl) (by kernel_rfl) (by kernel_rfl) (fun _ _ _ h => h) (Or.inl ⟨by kernel_rfl, fun W => by first | rfl | go_simp⟩) ?_
            simp only [Act.put, List.getElem_toArray, List.getElem_cons_succ, List.getElem_cons_zero, List.setIfInBounds_toArray, List.set_cons_succ, List.set_cons_zero]
            refine wpAny_take (i := 3) (v := .slice (some ⟨G, 0, none⟩) L c5) rfl (by kernel_rfl) (by kernel_rfl) (by kernel_rfl) (fun _ _ _ h => h) (Or.inl ⟨by kernel_rfl, fun W => by first | rfl | go_simp⟩) ?_
            simp only [Act.put, List.getElem_toArray, List.getElem_cons_succ, List.getElem_cons_zero, List.setIfInBounds_toArray, List.set_cons_succ, List.set_cons_zero]
            refine wpAny_take (i := 4) (v := .int .i64 ((i + 1 : Nat) : Int)) rfl (by kernel_rfl) (by kernel_rfl) (by kernel_rfl) (fun _ _ _ h => h) (Or.inl ⟨by kernel_rfl, fun W => by first | rfl | go_simp⟩) ?_
            simp only [Act.put, List.getElem_toArray, List.getElem_cons_succ, List.getElem_cons_zero, List.setIfInBounds_toArray, List.set_cons_succ, List.set_cons_zero]
            refine wpAny_take (i := 5) (v := .pointer (some ⟨G, (i + 1) * 3, none⟩)) rfl (by kernel_rfl) (by kernel_rfl) (by kernel_rfl) (fun _ _ _ h => h) (Or.inl ⟨by kernel_rfl, fun W => by first | rfl | go_simp⟩) ?_
            simp only [Act.put, List.getElem_toArray, List.getElem_cons_succ, List.getElem_cons_zero, List.setIfInBounds_toArray, List.set_cons_succ, List.set_cons_zero]
            refine wpAny_take (i := 6) (v := .pointer (some ⟨G, (i + 1) * 3 + 1, none⟩)) rfl (by kernel_rfl) (by kernel_rfl) (by kernel_rfl) (fun _ _ _ h => h) (Or.inl ⟨by kernel_rfl, fun W => by first | rfl | go_simp⟩) ?_
            simp only [Act.put, List.getElem_toArray, List.getElem_cons_succ, List.getElem_cons_zero, List.setIfInBounds_toArray, List.set_cons_succ, List.set_cons_zero]
            refine wpAny_take (i := 8) (v := .slice (some ⟨G, 0, none⟩) L c5) rfl (by kernel_rfl) (by kernel_rfl) (by kernel_rfl) (fun _ _ _ h => h) (Or.inl ⟨by kernel_rfl, fun W => by first | rfl | go_simp⟩) ?_
            simp only [Act.put, List.getElem_toArray, List.getElem_cons_succ, List.getElem_cons_zero, List.setIfInBounds_toArray, List.set_cons_succ, List.set_cons_zero]
            refine wpAny_take (i := 9) (v := .int .i64 ((i + 1 : Nat) : Int)) rfl (by kernel_rfl) (by kernel_rfl) (by kernel_rfl) (fun _ _ _ h => h) (Or.inl ⟨by kernel_rfl, fun W => by first | rfl | go_simp⟩) ?_
            simp only [Act.put, List.getElem_toArray, List.getElem_cons_succ, List.getElem_cons_zero, List.setIfInBounds_toArray, List.set_cons_succ, List.set_cons_zero]
            refine wpAny_take (i := 10) (v := .int .i64 (i : Int)) rfl (by kernel_rfl) (by kernel_rfl) (by kernel_rfl) (fun _ _ _ h => h) (Or.inl ⟨by kernel_rfl, fun W => by first | rfl | go_simp⟩) ?_
            simp only [Act.put, List.getElem_toArray, List.getElem_cons_succ, List.getElem_cons_zero, List.setIfInBounds_toArray, List.set_cons_succ, List.set_cons_zero]
            refine wpAny_take (i := 11) (v := .pointer (some ⟨G, i * 3, none⟩)) rfl (by kernel_rfl) (by kernel_rfl) (by kernel_rfl) (fun _ _ _ h => h) (Or.inl ⟨by kernel_rfl, fun W => by first | rfl | go_simp⟩) ?_
            simp only [Act.put, List.getElem_toArray, List.getElem_cons_succ, List.getElem_cons_zero, List.setIfInBounds_toArray, List.set_cons_succ, List.set_cons_zero]
            refine wpAny_take (i := 12) (v := .pointer (some ⟨G, i * 3 + 1, none⟩)) rfl (by kernel_rfl) (by kernel_rfl) (by kernel_rfl) (fun _ _ _ h => h) (Or.inl ⟨by kernel_rfl, fun W => by first | rfl | go_simp⟩) ?_
            simp only [Act.put, List.getElem_toArray, List.getElem_cons_succ, List.getElem_cons_zero, List.setIfInBounds_toArray, List.set_cons_succ, List.set_cons_zero]
            refine wpAny_ready (rs := [7, 13]) (by kernel_rfl) (by simp) ?_
            refine AllReady.cons rfl (fun K hK => ?_) (AllReady.cons rfl (fun K hK => ?_) AllReady.nil)
            · go_simp
              refine hK _ _ ?_
              clear hK K
              refine wpAny_ready (rs := [13]) (by kernel_rfl) (by simp) ?_
              refine AllReady.cons rfl (fun K hK => ?_) AllReady.nil
              go_simp
              refine hK _ _ ?_
              clear hK K
              refine wpAny_take (i := 14) (v := .bool true) rfl (by kernel_rfl) (by kernel_rfl) (by kernel_rfl) (fun _ _ _ h => h) (Or.inl ⟨by kernel_rfl, fun W => by first | rfl | go_simp⟩) ?_
              simp only [Act.put, List.getElem_toArray, List.getElem_cons_succ, List.getElem_cons_zero, List.setIfInBounds_toArray, List.set_cons_succ, List.set_cons_zero]
              refine wpAny_take (i := 15) (v := .bool true) rfl (by kernel_rfl) (by kernel_rfl) (by kernel_rfl) (fun _ _ _ h => h) (Or.inl ⟨by kernel_rfl, fun W => by first | rfl | go_simp⟩) ?_
              simp only [Act.put, List.getElem_toArray, List.getElem_cons_succ, List.getElem_cons_zero, List.setIfInBounds_toArray, List.set_cons_succ, List.set_cons_zero]
              refine wpAny_take (i := 16) (v := .bool true) rfl (by kernel_rfl) (by kernel_rfl) (by kernel_rfl) (fun _ _ _ h => h) (Or.inl ⟨by kernel_rfl, fun W => by first | rfl | go_simp⟩) ?_
              simp only [Act.put, List.getElem_toArray, List.getElem_cons_succ, List.getElem_cons_zero, List.setIfInBounds_toArray, List.set_cons_succ, List.set_cons_zero]
              refine wpAny_take (i := 17) (v := .pointer (some ⟨g, 0, none⟩)) rfl (by kernel_rfl) (by kernel_rfl) (by kernel_rfl) (fun _ _ _ h => h) (Or.inl ⟨by kernel_rfl, fun W => by first | rfl | go_simp⟩) ?_
              simp only [Act.put, List.getElem_toArray, List.getElem_cons_succ, List.getElem_cons_zero, List.setIfInBounds_toArray, List.set_cons_succ, List.set_cons_zero]
              refine wpAny_ready (rs := [18]) (by kernel_rfl) (by simp) ?_
              refine AllReady.cons rfl (fun K hK => ?_) AllReady.nil
              go_simp
              go_at_call 65
              refine (d_next _ _ _ _ _ _ _ hS6.undrew7).mono ?_
              rintro e w6 ⟨⟨p, rfl, -, hp⟩, hS7, hO7⟩
              obtain ⟨p0, p1⟩ := hp (by omega)
              refine hK _ _ ?_
              clear hK K
              refine wpAny_take (i := 19) (v := .bool (decide (0 < p))) rfl (by kernel_rfl) (by kernel_rfl) (by kernel_rfl) (fun _ _ _ h => h) (Or.inl ⟨by kernel_rfl, fun W => by first | rfl | go_simp⟩) ?_
              simp only [Act.put, List.getElem_toArray, List.getElem_cons_succ, List.getElem_cons_zero, List.setIfInBounds_toArray, List.set_cons_succ, List.set_cons_zero]
              refine wpAny_take (i := 20) (v := .bool (decide (0 < p))) rfl (by kernel_rfl) (by kernel_rfl) (by kernel_rfl) (fun _ _ _ h => h) (Or.inl ⟨by kernel_rfl, fun W => by first | rfl | go_simp⟩) ?_
              simp only [Act.put, List.getElem_toArray, List.getElem_cons_succ, List.getElem_cons_zero, List.setIfInBounds_toArray, List.set_cons_succ, List.set_cons_zero]
              refine wpAny_done (by kernel_rfl) ?_ _
              try simp only [List.getElem_toArray, List.getElem_cons_succ, List.getElem_cons_zero, List.setIfInBounds_toArray, List.set_cons_succ, List.set_cons_zero]
              have O8 := O6.drew.off hO7 hg
              have F8 := F6.drew7.trans hO7
              clear hO7
              by_cases hp0 : 0 < p
              · obtain ⟨-, hGl8, c0, c1, c2, hfr8⟩ := O8.atG (i + 1) hj
                obtain ⟨-, -, d0, d1, d2, -⟩ := O8.atG i (by omega)
                rw [hy1] at c0 c1 c2
                rw [hy0] at d0 d1 d2
                dsimp only at c0 c1 c2 d0 d1 d2
                clear a0 a1 a2 b0 b1 b2 hfr
                have fr0 := hfr8 (i * 3)
                have fr1 := hfr8 (i * 3 + 1)
                have fr2 := hfr8 (i * 3 + 2)
                have fr3 := hfr8 ((i + 1) * 3)
                have fr4 := hfr8 ((i + 1) * 3 + 1)
                have fr5 := hfr8 ((i + 1) * 3 + 2)
                clear hfr8
                go_wp2_with fail
                clear c0 c1 c2 d0 d1 d2 fr0 fr1 fr2 fr3 fr4 fr5
                have S1 := O8.setAt hts5.symm i (by omega) (X1, F1, T1)
                have S2 := S1.1.setAt (by simp [hts5]) (i + 1) (by simp; omega) (X0, F0, T0)
                have hsw := rgB_swap hts (i := i) (j := i + 1) (by omega) hj
                rw [hy1, hy0] at hsw
                have hrow : ∀ k, some G = some k → w.heap.size ≤ k := fun k hk => by injection hk with hk; omega
                go_roundw
                case rel => exact ⟨i, _, by first | rfl | go_num, by simp; omega, by simp [hts5], hsw, S2.1.alloc _, ((hS7.own hS S1.2 hrow).own hS S2.2 hrow).below (below_alloc _ _), ((F8.own S1.2 hrow).own S2.2 hrow).alloc _⟩
                case measure => first | (simp [intOf]; done) | (simp [intOf]; omega)
              · have hp1 : p = 0 := by omega
                subst hp1
                go_wp2_with fail
                go_roundw
                case rel => exact ⟨k - 1, ts, by go_num, by omega, by omega, hts, O8, hS7, F8, by simp⟩
                case measure => first | (simp [intOf]; done) | (simp [intOf]; omega)
            · go_simp
              refine hK _ _ ?_
              clear hK K
              refine wpAny_ready (rs := [7]) (by kernel_rfl) (by simp) ?_
              refine AllReady.cons rfl (fun K hK => ?_) AllReady.nil
              go_simp
              refine hK _ _ ?_
              clear hK K
              refine wpAny_take (i := 14) (v := .bool true) rfl (by kernel_rfl) (by kernel_rfl) (by kernel_rfl) (fun _ _ _ h => h) (Or.inl ⟨by kernel_rfl, fun W => by first | rfl | go_simp⟩) ?_
              simp only [Act.put, List.getElem_toArray, List.getElem_cons_succ, List.getElem_cons_zero, List.setIfInBounds_toArray, List.set_cons_succ, List.set_cons_zero]
              refine wpAny_take (i := 15) (v := .bool true) rfl (by kernel_rfl) (by kernel_rfl) (by kernel_rfl) (fun _ _ _ h => h) (Or.inl ⟨by kernel_rfl, fun W => by first | rfl | go_simp⟩) ?_
              simp only [Act.put, List.getElem_toArray, List.getElem_cons_succ, List.getElem_cons_zero, List.setIfInBounds_toArray, List.set_cons_succ, List.set_cons_zero]
              refine wpAny_take (i := 16) (v := .bool true) rfl (by kernel_rfl) (by kernel_rfl) (by kernel_rfl) (fun _ _ _ h => h) (Or.inl ⟨by kernel_rfl, fun W => by first | rfl | go_simp⟩) ?_
              simp only [Act.put, List.getElem_toArray, List.getElem_cons_succ, List.getElem_cons_zero, List.setIfInBounds_toArray, List.set_cons_succ, List.set_cons_zero]
              refine wpAny_take (i := 17) (v := .pointer (some ⟨g, 0, none⟩)) rfl (by kernel_rfl) (by kernel_rfl) (by kernel_rfl) (fun _ _ _ h => h) (Or.inl ⟨by kernel_rfl, fun W => by first | rfl | go_simp⟩) ?_
              simp only [Act.put, List.getElem_toArray, List.getElem_cons_succ, List.getElem_cons_zero, List.setIfInBounds_toArray, List.set_cons_succ, List.set_cons_zero]
              refine wpAny_ready (rs := [18]) (by kernel_rfl) (by simp) ?_
              refine AllReady.cons rfl (fun K hK => ?_) AllReady.nil
              go_simp
              go_at_call 65
              refine (d_next _ _ _ _ _ _ _ hS6.undrew7).mono ?_
              rintro e w6 ⟨⟨p, rfl, -, hp⟩, hS7, hO7⟩
              obtain ⟨p0, p1⟩ := hp (by omega)
              refine hK _ _ ?_
              clear hK K
              refine wpAny_take (i := 19) (v := .bool (decide (0 < p))) rfl (by kernel_rfl) (by kernel_rfl) (by kernel_rfl) (fun _ _ _ h => h) (Or.inl ⟨by kernel_rfl, fun W => by first | rfl | go_simp⟩) ?_
              simp only [Act.put, List.getElem_toArray, List.getElem_cons_succ, List.getElem_cons_zero, List.setIfInBounds_toArray, List.set_cons_succ, List.set_cons_zero]
              refine wpAny_take (i := 20) (v := .bool (decide (0 < p))) rfl (by kernel_rfl) (by kernel_rfl) (by kernel_rfl) (fun _ _ _ h => h) (Or.inl ⟨by kernel_rfl, fun W => by first | rfl | go_simp⟩) ?_
              simp only [Act.put, List.getElem_toArray, List.getElem_cons_succ, List.getElem_cons_zero, List.setIfInBounds_toArray, List.set_cons_succ, List.set_cons_zero]
              refine wpAny_done (by kernel_rfl) ?_ _
              try simp only [List.getElem_toArray, List.getElem_cons_succ, List.getElem_cons_zero, List.setIfInBounds_toArray, List.set_cons_succ, List.set_cons_zero]
              have O8 := O6.drew.off hO7 hg
              have F8 := F6.drew7.trans hO7
              clear hO7
              by_cases hp0 : 0 < p
              · obtain ⟨-, hGl8, c0, c1, c2, hfr8⟩ := O8.atG (i + 1) hj
                obtain ⟨-, -, d0, d1, d2, -⟩ := O8.atG i (by omega)
                rw [hy1] at c0 c1 c2
                rw [hy0] at d0 d1 d2
                dsimp only at c0 c1 c2 d0 d1 d2
                clear a0 a1 a2 b0 b1 b2 hfr
                have fr0 := hfr8 (i * 3)
                have fr1 := hfr8 (i * 3 + 1)
                have fr2 := hfr8 (i * 3 + 2)
                have fr3 := hfr8 ((i + 1) * 3)
                have fr4 := hfr8 ((i + 1) * 3 + 1)
                have fr5 := hfr8 ((i + 1) * 3 + 2)
                clear hfr8
                go_wp2_with fail
                clear c0 c1 c2 d0 d1 d2 fr0 fr1 fr2 fr3 fr4 fr5
                have S1 := O8.setAt hts5.symm i (by omega) (X1, F1, T1)
                have S2 := S1.1.setAt (by simp [hts5]) (i + 1) (by simp; omega) (X0, F0, T0)
                have hsw := rgB_swap hts (i := i) (j := i + 1) (by omega) hj
                rw [hy1, hy0] at hsw
                have hrow : ∀ k, some G = some k → w.heap.size ≤ k := fun k hk => by injection hk with hk; omega
                go_roundw
                case rel => exact ⟨i, _, by first | rfl | go_num, by simp; omega, by simp [hts5], hsw, S2.1.alloc _, ((hS7.own hS S1.2 hrow).own hS S2.2 hrow).below (below_alloc _ _), ((F8.own S1.2 hrow).own S2.2 hrow).alloc _⟩
                case measure => first | (simp [intOf]; done) | (simp [intOf]; omega)
              · have hp1 : p = 0 := by omega
                subst hp1
                go_wp2_with fail
                go_roundw
                case rel => exact ⟨k - 1, ts, by go_num, by omega, by omega, hts, O8, hS7, F8, by simp⟩
                case measure => first | (simp [intOf]; done) | (simp [intOf]; omega)
          · as_aux_lemma =>
            have hlt' : decide (F1 < F0) = false := by simpa using hlt
            have hlt2 : F0 ≤ F1 := by omega
            clear hlt
            go_wp2_with fail
            refine wp_region_any (by kernel_rfl) ?_
            change wpAny _ _ _ _ _ _ _ (World.drew _)
            refine wpAny_take (i := 0) (v := .int .i64 ((i + 1 : Nat) : Int)) rfl (by kernel_rfl) (by kernel_rfl) (by kernel_rfl) (fun _ _ _ h => h) (Or.inl ⟨by kernel_rfl, fun W => by first | rfl | go_simp⟩) ?_
            simp only [Act.put, List.getElem_toArray, List.getElem_cons_succ, List.getElem_cons_zero, List.setIfInBounds_toArray, List.set_cons_succ, List.set_cons_zero]
            refine wpAny_take (i := 1) (v := .bool true) rfl (by kernel_rfl) (by kernel_rfl) (by kernel_rfl) (fun _ _ _ h => h) (Or.inl ⟨by kernel_rfl, fun W => by first | rfl | go_simp⟩) ?_
            simp only [Act.put, List.getElem_toArray, List.getElem_cons_succ, List.getElem_cons_zero, List.setIfInBounds_toArray, List.set_cons_succ, List.set_cons_zero]
            refine wpAny_take (i := 2) (v := .bool true) rfl (by kernel_rfl) (by kernel_rfl) (by kernel_rfl) (fun _ _ _ h => h) (Or.inl ⟨by kernel_rfl, fun W => by first | rfl | go_simp⟩) ?_
            simp only [Act.put, List.getElem_toArray, List.getElem_cons_succ, List.getElem_cons_zero, List.setIfInBounds_toArray, List.set_cons_succ, List.set_cons_zero]
            refine wpAny_take (i := 3) (v := .slice (some ⟨G, 0, none⟩) L c5) rfl (by kernel_rfl) (by kernel_rfl) (by kernel_rfl) (fun _ _ _ h => h) (Or.inl ⟨by kernel_rfl, fun W => by first | rfl | go_simp⟩) ?_
            simp only [Act.put, List.getElem_toArray, List.getElem_cons_succ, List.getElem_cons_zero, List.setIfInBounds_toArray, List.set_cons_succ, List.set_cons_zero]
            refine wpAny_take (i := 4) (v := .int .i64 ((i + 1 : Nat) : Int)) rfl (by kernel_rfl) (by kernel_rfl) (by kernel_rfl) (fun _ _ _ h => h) (Or.inl ⟨by kernel_rfl, fun W => by first | rfl | go_simp⟩) ?_
            simp only [Act.put, List.getElem_toArray, List.getElem_cons_succ, List.getElem_cons_zero, List.setIfInBounds_toArray, List.set_cons_succ, List.set_cons_zero]
            refine wpAny_take (i := 5) (v := .pointer (some ⟨G, (i + 1) * 3, none⟩)) rfl (by kernel_rfl) (by kernel_rfl) (by kernel_rfl) (fun _ _ _ h => h) (Or.inl ⟨by kernel_rfl, fun W => by first | rfl | go_simp⟩) ?_
            simp only [Act.put, List.getElem_toArray, List.getElem_cons_succ, List.getElem_cons_zero, List.setIfInBounds_toArray, List.set_cons_succ, List.set_cons_zero]
            refine wpAny_take (i := 6) (v := .pointer (some ⟨G, (i + 1) * 3 + 1, none⟩)) rfl (by kernel_rfl) (by kernel_rfl) (by kernel_rfl) (fun _ _ _ h => h) (Or.inl ⟨by kernel_rfl, fun W => by first | rfl | go_simp⟩) ?_
            simp only [Act.put, List.getElem_toArray, List.getElem_cons_succ, List.getElem_cons_zero, List.setIfInBounds_toArray, List.set_cons_succ, List.set_cons_zero]
            refine wpAny_take (i := 8) (v := .slice (some ⟨G, 0, none⟩) L c5) rfl (by kernel_rfl) (by kernel_rfl) (by kernel_rfl) (fun _ _ _ h => h) (Or.inl ⟨by kernel_rfl, fun W => by first | rfl | go_simp⟩) ?_
            simp only [Act.put, List.getElem_toArray, List.getElem_cons_succ, List.getElem_cons_zero, List.setIfInBounds_toArray, List.set_cons_succ, List.set_cons_zero]
            refine wpAny_take (i := 9) (v := .int .i64 ((i + 1 : Nat) : Int)) rfl (by kernel_rfl) (by kernel_rfl) (by kernel_rfl) (fun _ _ _ h => h) (Or.inl ⟨by kernel_rfl, fun W => by first | rfl | go_simp⟩) ?_
            simp only [Act.put, List.getElem_toArray, List.getElem_cons_succ, List.getElem_cons_zero, List.setIfInBounds_toArray, List.set_cons_succ, List.set_cons_zero]
            refine wpAny_take (i := 10) (v := .int .i64 (i : Int)) rfl (by kernel_rfl) (by kernel_rfl) (by kernel_rfl) (fun _ _ _ h => h) (Or.inl ⟨by kernel_rfl, fun W => by first | rfl | go_simp⟩) ?_
            simp only [Act.put, List.getElem_toArray, List.getElem_cons_succ, List.getElem_cons_zero, List.setIfInBounds_toArray, List.set_cons_succ, List.set_cons_zero]
            refine wpAny_take (i := 11) (v := .pointer (some ⟨G, i * 3, none⟩)) rfl (by kernel_rfl) (by kernel_rfl) (by kernel_rfl) (fun _ _ _ h => h) (Or.inl ⟨by kernel_rfl, fun W => by first | rfl | go_simp⟩) ?_
            simp only [Act.put, List.getElem_toArray, List.getElem_cons_succ, List.getElem_cons_zero, List.setIfInBounds_toArray, List.set_cons_succ, List.set_cons_zero]
            refine wpAny_take (i := 12) (v := .pointer (some ⟨G, i * 3 + 1, none⟩)) rfl (by kernel_rfl) (by kernel_rfl) (by kernel_rfl) (fun _ _ _ h => h) (Or.inl ⟨by kernel_rfl, fun W => by first | rfl | go_simp⟩) ?_
            simp only [Act.put, List.getElem_toArray, List.getElem_cons_succ, List.getElem_cons_zero, List.setIfInBounds_toArray, List.set_cons_succ, List.set_cons_zero]
            refine wpAny_ready (rs := [7, 13]) (by kernel_rfl) (by simp) ?_
            refine AllReady.cons rfl (fun K hK => ?_) (AllReady.cons rfl (fun K hK => ?_) AllReady.nil)
            · go_simp
              refine hK _ _ ?_
              clear hK K
              refine wpAny_ready (rs := [13]) (by kernel_rfl) (by simp) ?_
              refine AllReady.cons rfl (fun K hK => ?_) AllReady.nil
              go_simp
              refine hK _ _ ?_
              clear hK K
              refine wpAny_take (i := 14) (v := .bool false) rfl (by kernel_rfl) (by kernel_rfl) (by kernel_rfl) (fun _ _ _ h => h) (Or.inl ⟨by kernel_rfl, fun W => by first | rfl | go_simp⟩) ?_
              simp only [Act.put, List.getElem_toArray, List.getElem_cons_succ, List.getElem_cons_zero, List.setIfInBounds_toArray, List.set_cons_succ, List.set_cons_zero]
              refine wpAny_take (i := 15) (v := .bool false) rfl (by kernel_rfl) (by kernel_rfl) (by kernel_rfl) (fun _ _ _ h => h) (Or.inl ⟨by kernel_rfl, fun W => by first | rfl | go_simp⟩) ?_
              simp only [Act.put, List.getElem_toArray, List.getElem_cons_succ, List.getElem_cons_zero, List.setIfInBounds_toArray, List.set_cons_succ, List.set_cons_zero]
              refine wpAny_take (i := 16) (v := .bool false) rfl (by kernel_rfl) (by kernel_rfl) (by kernel_rfl) (fun _ _ _ h => h) (Or.inl ⟨by kernel_rfl, fun W => by first | rfl | go_simp⟩) ?_
              simp only [Act.put, List.getElem_toArray, List.getElem_cons_succ, List.getElem_cons_zero, List.setIfInBounds_toArray, List.set_cons_succ, List.set_cons_zero]
              refine wpAny_take (i := 17) (v := undef) rfl (by kernel_rfl) (by kernel_rfl) (by kernel_rfl) (fun _ _ _ h => h) (Or.inr ⟨by kernel_rfl, rfl⟩) ?_
              simp only [Act.put, List.getElem_toArray, List.getElem_cons_succ, List.getElem_cons_zero, List.setIfInBounds_toArray, List.set_cons_succ, List.set_cons_zero]
              refine wpAny_take (i := 18) (v := undef) rfl (by kernel_rfl) (by kernel_rfl) (by kernel_rfl) (fun _ _ _ h => h) (Or.inr ⟨by kernel_rfl, rfl⟩) ?_
              simp only [Act.put, List.getElem_toArray, List.getElem_cons_succ, List.getElem_cons_zero, List.setIfInBounds_toArray, List.set_cons_succ, List.set_cons_zero]
              refine wpAny_take (i := 19) (v := undef) rfl (by kernel_rfl) (by kernel_rfl) (by kernel_rfl) (fun _ _ _ h => h) (Or.inr ⟨by kernel_rfl, rfl⟩) ?_
              simp only [Act.put, List.getElem_toArray, List.getElem_cons_succ, List.getElem_cons_zero, List.setIfInBounds_toArray, List.set_cons_succ, List.set_cons_zero]
              refine wpAny_take (i := 20) (v := .bool false) rfl (by kernel_rfl) (by kernel_rfl) (by kernel_rfl) (fun _ _ _ h => h) (Or.inl ⟨by kernel_rfl, fun W => by first | rfl | go_simp⟩) ?_
              simp only [Act.put, List.getElem_toArray, List.getElem_cons_succ, List.getElem_cons_zero, List.setIfInBounds_toArray, List.set_cons_succ, List.set_cons_zero]
              refine wpAny_done (by kernel_rfl) ?_ _
              try simp only [List.getElem_toArray, List.getElem_cons_succ, List.getElem_cons_zero, List.setIfInBounds_toArray, List.set_cons_succ, List.set_cons_zero]
              go_wp2_with fail
              go_roundw
              case rel => exact ⟨k - 1, ts, by go_num, by omega, by omega, hts, O6.drew, hS6.undrew7, F6.drew7, by simp⟩
              case measure => first | (simp [intOf]; done) | (simp [intOf]; omega)
            · go_simp
              refine hK _ _ ?_
              clear hK K
              refine wpAny_ready (rs := [7]) (by kernel_rfl) (by simp) ?_
              refine AllReady.cons rfl (fun K hK => ?_) AllReady.nil
              go_simp
              refine hK _ _ ?_
              clear hK K
              refine wpAny_take (i := 14) (v := .bool false) rfl (by kernel_rfl) (by kernel_rfl) (by kernel_rfl) (fun _ _ _ h => h) (Or.inl ⟨by kernel_rfl, fun W => by first | rfl | go_simp⟩) ?_
              simp only [Act.put, List.getElem_toArray, List.getElem_cons_succ, List.getElem_cons_zero, List.setIfInBounds_toArray, List.set_cons_succ, List.set_cons_zero]
              refine wpAny_take (i := 15) (v := .bool false) rfl (by kernel_rfl) (by kernel_rfl) (by kernel_rfl) (fun _ _ _ h => h) (Or.inl ⟨by kernel_rfl, fun W => by first | rfl | go_simp⟩) ?_
              simp only [Act.put, List.getElem_toArray, List.getElem_cons_succ, List.getElem_cons_zero, List.setIfInBounds_toArray, List.set_cons_succ, List.set_cons_zero]
              refine wpAny_take (i := 16) (v := .bool false) rfl (by kernel_rfl) (by kernel_rfl) (by kernel_rfl) (fun _ _ _ h => h) (Or.inl ⟨by kernel_rfl, fun W => by first | rfl | go_simp⟩) ?_
              simp only [Act.put, List.getElem_toArray, List.getElem_cons_succ, List.getElem_cons_zero, List.setIfInBounds_toArray, List.set_cons_succ, List.set_cons_zero]
              refine wpAny_take (i := 17) (v := undef) rfl (by kernel_rfl) (by kernel_rfl) (by kernel_rfl) (fun _ _ _ h => h) (Or.inr ⟨by kernel_rfl, rfl⟩) ?_
              simp only [Act.put, List.getElem_toArray, List.getElem_cons_succ, List.getElem_cons_zero, List.setIfInBounds_toArray, List.set_cons_succ, List.set_cons_zero]
              refine wpAny_take (i := 18) (v := undef) rfl (by kernel_rfl) (by kernel_rfl) (by kernel_rfl) (fun _ _ _ h => h) (Or.inr ⟨by kernel_rfl, rfl⟩) ?_
              simp only [Act.put, List.getElem_toArray, List.getElem_cons_succ, List.getElem_cons_zero, List.setIfInBounds_toArray, List.set_cons_succ, List.set_cons_zero]
              refine wpAny_take (i := 19) (v := undef) rfl (by kernel_rfl) (by kernel_rfl) (by kernel_rfl) (fun _ _ _ h => h) (Or.inr ⟨by kernel_rfl, rfl⟩) ?_
              simp only [Act.put, List.getElem_toArray, List.getElem_cons_succ, List.getElem_cons_zero, List.setIfInBounds_toArray, List.set_cons_succ, List.set_cons_zero]
              refine wpAny_take (i := 20) (v := .bool false) rfl (by kernel_rfl) (by kernel_rfl) (by kernel_rfl) (fun _ _ _ h => h) (Or.inl ⟨by kernel_rfl, fun W => by first | rfl | go_simp⟩) ?_
              simp only [Act.put, List.getElem_toArray, List.getElem_cons_succ, List.getElem_cons_zero, List.setIfInBounds_toArray, List.set_cons_succ, List.set_cons_zero]
              refine wpAny_done (by kernel_rfl) ?_ _
              try simp only [List.getElem_toArray, List.getElem_cons_succ, List.getElem_cons_zero, List.setIfInBounds_toArray, List.set_cons_succ, List.set_cons_zero]
              go_wp2_with fail
              go_roundw
              case rel => exact ⟨k - 1, ts, by go_num, by omega, by omega, hts, O6.drew, hS6.undrew7, F6.drew7, by simp⟩
              case measure => first | (simp [intOf]; done) | (simp [intOf]; omega)
    · as_aux_lemma =>
      obtain rfl : k = 0 := by omega
      go_wp2_with fail
      refine (d_next _ _ _ _ _ _ _ hS2).mono ?_
      rintro e w3 ⟨⟨p, rfl, -, hp⟩, hS3, hO⟩
      obtain ⟨p0, p1⟩ := hp (by omega)
      have V3 := V.off hO hg
      have F3 := O2.trans hO
      clear V O2 hO hS2 hp
      by_cases hp0 : p = 0
      · subst hp0
        go_wp2_with fail
        refine (d_next _ _ _ _ _ _ _ (hS3.below (below_alloc w3 _))).mono ?_
        rintro e w4 ⟨⟨q, rfl, -, hq⟩, hS4, hO4⟩
        obtain ⟨q0, q1⟩ := hq (by omega)
        have F4 := (F3.alloc _).trans hO4
        have V4 := ((OwnR.lit0 w3).off hO4 (Nat.lt_of_lt_of_le hg F3.size)).mono F3.size
        have hq30 : IntKind.i64.wrap (30 + q) = 30 + q := IntWalk.i64_in _ (by omega)
        clear V3 F3 hS3 hO4 hq hne
        go_wp2_with fail
        go_loopw [3, 8] (fun o q wr => ∃ (k : Nat) (rs : List RG), q = .int .i64 k ∧ k ≤ 31 ∧ rs.length + k ≤ 31 ∧ (∀ r ∈ rs, rgB r) ∧ OwnR wr w.heap.size o rs ∧ Src wr g a n c xs ∧ Off g w wr ∧ o ≠ .slice none 0 0) (fun _ q _ => (intOf q).toNat)
        case atStart => exact ⟨(30 + q).toNat, [], by rw [Int.toNat_of_nonneg (by omega)], by omega, by simp; omega, by simp, V4, hS4, F4, by simp⟩
        case round =>
          clear V4 hS4 F4
          obtain ⟨k, ts, rfl, hk31, htl, hts, V, hS5, F5, hne5⟩ := hrel
          have hz5 := F5.size
          by_cases hk0 : 0 < k
          · have hk' : (0 : Int) < k := by omega
            have hw1 : IntKind.i64.wrap (1000 + (k : Int)) = 1000 + (k : Int) := IntWalk.i64_in _ (by omega)
            go_wp2_with (at_builtin; refine Hid.out ?_)
            refine Lib.hid ?_
            refine wpList_appR rfl _ _ rfl wr w.heap.size _ ts ([120], 1000, 1000 + (k : Int)) ?_ V wr.heap.size rfl ?_ (by omega) hz5 ?_
            · rfl
            · rfl
            intro v6 w6 V6 hg6
            have hS6 := hS5.own hS hg6 (fun k hk => (V.lt k hk).1)
            have F6 := F5.own hg6 (fun k hk => (V.lt k hk).1)
            have hts6 : ∀ r ∈ ts ++ [(([120], 1000, 1000 + (k : Int)) : RG)], rgB r := by
              intro r hr
              rcases List.mem_append.1 hr with hr | hr
              · exact hts r hr
              · obtain rfl := List.mem_singleton.1 hr
                exact ⟨by simp, by simp, by simp, by show -20 ≤ 1000 + (k : Int); omega, by show 1000 + (k : Int) ≤ 4000000; omega⟩
            clear V hS5 F5 hg6
            go_wp2_with fail
            go_roundw
            case rel => exact ⟨k - 1, _, by go_num, by omega, by simp; omega, hts6, V6, hS6, F6, own_someR V6 (by simp)⟩
            case measure => first | (simp [intOf]; done) | (simp [intOf]; omega)
          · obtain rfl : k = 0 := by omega
            go_wp2_with fail
            go_ret
            exact ⟨⟨_, ts, rfl, V, by omega, hts, hne5⟩, hS5, F5⟩
      · have hp0' : decide (p = 0) = false := by simp [hp0]
        go_wp2_with fail
        go_ret
        exact ⟨⟨_, rs, rfl, V3, by omega, hrs, hne⟩, hS3, F3⟩
end Go.Proofs.YtmpgokijlikddaaGreatDoor
