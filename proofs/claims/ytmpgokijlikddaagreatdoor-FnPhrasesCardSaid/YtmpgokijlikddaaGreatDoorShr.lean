/- SharedWords: the program's and the reference's functions return what the plain function says. Conditions: lengths that a machine can hold; how the lists lie. -/
import Derived.Test.YtmpgokijlikddaaGreatDoorAlk
import Derived.Test.YtmpgokijlikddaaGreatDoorPhr
import Derived.Test.YtmpgokijlikddaaGreatDoorShP
namespace Go.Proofs.YtmpgokijlikddaaGreatDoor
open Go.RowKit
set_option linter.unusedSimpArgs false
def shF (a b : List (List UInt8)) : Int × Int := if phB a && phB b then ((shN a b : Nat), 0) else (0, 1)
theorem ph_wd {xs : List (List UInt8)} (h : phB xs = true) (k : Nat) (hk : k < xs.length) : wordB (xs.getD k []) = true := by
  unfold phB at h
  rw [Bool.and_eq_true] at h
  have := List.all_eq_true.1 h.1 xs[k] (List.getElem_mem hk)
  rw [show xs.getD k [] = xs[k] by simp [List.getD, hk]]
  exact this
/-- how far the words agree, of which j are told -/
theorem cpl_more {a b : List Wd} {i k j : Nat} (hi : i + j < a.length) (hk : k + j < b.length) (h : alB (a.getD (i + j) []) (b.getD (k + j) []) = true) (hc : cpl (a.drop i) (b.drop k) = j + cpl (a.drop (i + j)) (b.drop (k + j))) :
    cpl (a.drop i) (b.drop k) = (j + 1) + cpl (a.drop (i + (j + 1))) (b.drop (k + (j + 1))) := by
  unfold alB at h
  rw [hc, cpl_T a b (i + j) (k + j) hi hk (of_decide_eq_true h)]
  rw [Nat.add_assoc i j 1, Nat.add_assoc k j 1]; omega
theorem cpl_stop {a b : List Wd} {i k j : Nat} (h : ¬ (i + j < a.length ∧ k + j < b.length ∧ alB (a.getD (i + j) []) (b.getD (k + j) []) = true)) (hc : cpl (a.drop i) (b.drop k) = j + cpl (a.drop (i + j)) (b.drop (k + j))) : cpl (a.drop i) (b.drop k) = j := by
  rw [hc, cpl_F a b (i + j) (k + j) (fun h1 h2 h3 => h ⟨h1, h2, by unfold alB; exact decide_eq_true h3⟩)]; omega
set_option maxRecDepth 100000 in
set_option maxHeartbeats 4000000 in
theorem s_shared {b1 b2 : Nat} {v1 v2 : Value} {a b : List (List UInt8)} (w : World) (h1 : OwnS w b1 v1 a) (h2 : OwnS w b2 v2 b) (pa : phB a = true) (pb : phB b = true) :
    Calls Tryz.prog 107 #[v1, v2] w fun e w' => (∃ z, e = .returned (.tuple #[.int .i64 (shN a b : Nat), .int .i64 z])) ∧ Below w.heap.size w w' := by
  obtain ⟨hl1, A1, c1, rfl, p1⟩ := h1.opened
  obtain ⟨hl2, A2, c2, rfl, p2⟩ := h2.opened
  have la := (ph_len pa).1
  have lb := (ph_len pb).1
  have P1 := Lib.hid p1
  have P2 := Lib.hid p2
  have MR := Lib.hid (fun i k j h1 h2 h3 h4 => cpl_more (a := a) (b := b) (i := i) (k := k) (j := j) h1 h2 h3 h4)
  have SP := Lib.hid (fun i k j h1 h2 => cpl_stop (a := a) (b := b) (i := i) (k := k) (j := j) h1 h2)
  have C0 := Lib.hid (fun i k => Lib.hid (show cpl (a.drop i) (b.drop k) = 0 + cpl (a.drop (i + 0)) (b.drop (k + 0)) by simp))
  have hF1 : ∃ F1 : Nat → Nat, F1 = sh1 a b := ⟨_, rfl⟩
  have hF2 : ∃ F2 : Nat → Nat → Nat, F2 = fun i k => sh2 a b i (sh1 a b i) k := ⟨_, rfl⟩
  obtain ⟨F1, hF1⟩ := hF1
  obtain ⟨F2, hF2⟩ := hF2
  have Z1 := Lib.hid (show F1 0 = 0 by rw [hF1]; rfl)
  have E1 := Lib.hid (fun i => show F1 (i + 1) = F2 i b.length by rw [hF1, hF2]; rfl)
  have Z2 := Lib.hid (fun i => show F2 i 0 = F1 i by rw [hF1, hF2]; rfl)
  have E2 := Lib.hid (fun i k => show F2 i (k + 1) = max (F2 i k) (cpl (a.drop i) (b.drop k)) by rw [hF2]; rfl)
  have BF1 := Lib.hid (fun i => show F1 i ≤ 60 by rw [hF1]; have := sh1_bd a b i; omega)
  have BF2 := Lib.hid (fun i k => show F2 i k ≤ 60 by rw [hF2]; have := sh2_bd a b i (sh1 a b i) k (sh1_bd a b i); dsimp only; omega)
  have hN : shN a b = F1 a.length := by rw [hF1]; rfl
  rw [hN]
  have CC := Lib.hid (fun k l (hk : k < a.length) (hl : l < b.length) => (⟨fun W => s_normal (a.getD k []) W (word_len (ph_wd pa k hk)) (word_pos (ph_wd pa k hk)), fun W => s_normal (b.getD l []) W (word_len (ph_wd pb l hl)) (word_pos (ph_wd pb l hl))⟩ : (∀ W : World, Calls Tryz.prog 175 #[.string ⟨(a.getD k []).toArray⟩] W fun e w' => e = .returned (.string ⟨(nmL (a.getD k [])).toArray⟩) ∧ Below W.heap.size W w') ∧ (∀ W : World, Calls Tryz.prog 175 #[.string ⟨(b.getD l []).toArray⟩] W fun e w' => e = .returned (.string ⟨(nmL (b.getD l [])).toArray⟩) ∧ Below W.heap.size W w')))
  clear h1 h2 pa pb p1 p2 hN hl1 hl2 hF1 hF2
  obtain ⟨na, hna⟩ : ∃ na, a.length = na := ⟨_, rfl⟩
  obtain ⟨nb, hnb⟩ : ∃ nb, b.length = nb := ⟨_, rfl⟩
  rw [hna] at P1 MR SP la CC ⊢
  rw [hnb] at P2 MR SP E1 lb CC ⊢
  clear hna hnb
  go_enter Tryz.func107, Tryz.ntmps107
  go_wp2_with fail
  go_loopw [6, 7, 8] (fun mq mz iq wr => ∃ i : Nat, i ≤ na ∧ iq = .int .i64 i ∧ mq = .int .i64 (F1 i : Nat) ∧ (∃ z, mz = .int .i64 z) ∧ Below w.heap.size w wr) (fun _ _ iq _ => na - (intOf iq).toNat)
  case atStart => exact ⟨0, by omega, rfl, by rw [Z1.out]; rfl, ⟨_, rfl⟩, Below.refl _ _⟩
  case round =>
    obtain ⟨i, hi, rfl, rfl, ⟨z, rfl⟩, hB⟩ := hrel
    have f1 := BF1.out i
    by_cases hlt : i < na
    · go_wp2_with fail
      go_loopw [6, 7, 9] (fun mq mz kq wy => ∃ k : Nat, k ≤ nb ∧ kq = .int .i64 k ∧ mq = .int .i64 (F2 i k : Nat) ∧ (∃ z, mz = .int .i64 z) ∧ Below w.heap.size w wy) (fun _ _ kq _ => nb - (intOf kq).toNat)
      case atStart => exact ⟨0, by omega, rfl, by rw [Z2.out], ⟨_, rfl⟩, hB⟩
      case round =>
        clear hB
        obtain ⟨k, hk, rfl, rfl, ⟨z, rfl⟩, hB⟩ := hrel
        have f2 := BF2.out i k
        by_cases hlk : k < nb
        · go_wp2_with fail
          go_loopw [10] (fun jq wx => ∃ j : Nat, i + j ≤ na ∧ jq = .int .i64 j ∧ Hid (cpl (a.drop i) (b.drop k) = j + cpl (a.drop (i + j)) (b.drop (k + j))) ∧ Below w.heap.size w wx) (fun jq _ => na - (intOf jq).toNat)
          case atStart => exact ⟨0, by omega, rfl, C0.out i k, hB⟩
          case round =>
            clear hB
            obtain ⟨j, hj, rfl, HC, hB⟩ := hrel
            obtain ⟨p, hp⟩ : ∃ p, i + j = p := ⟨_, rfl⟩
            obtain ⟨r, hr⟩ : ∃ r, k + j = r := ⟨_, rfl⟩
            have hs1 : IntKind.i64.wrap ((i : Int) + (j : Int)) = (p : Int) := by rw [IntWalk.i64_in _ (by omega)]; omega
            have hs2 : IntKind.i64.wrap ((k : Int) + (j : Int)) = (r : Int) := by rw [IntWalk.i64_in _ (by omega)]; omega
            by_cases hpa : p < na
            · by_cases hrb : r < nb
              · obtain ⟨g1, rfl, -, hg1, hc1, -⟩ := P1.out (by omega)
                obtain ⟨g2, rfl, -, hg2, hc2, -⟩ := P2.out (by omega)
                have x1 := (hB.cell (p := ⟨g1, p, none⟩) hg1).trans (hc1 p hpa)
                have x2 := (hB.cell (p := ⟨g2, r, none⟩) hg2).trans (hc2 r hrb)
                replace hg1 := Nat.lt_of_lt_of_le hg1 hB.size
                replace hg2 := Nat.lt_of_lt_of_le hg2 hB.size
                clear hc1 hc2
                have mr := MR.out i k j (by omega) (by omega)
                have sp := SP.out i k j
                rw [hp, hr] at mr sp
                have cx := CC.out p r hpa hrb
                obtain ⟨x, hx⟩ : ∃ x, a.getD p [] = x := ⟨_, rfl⟩
                obtain ⟨y, hy⟩ : ∃ y, b.getD r [] = y := ⟨_, rfl⟩
                rw [hx] at x1 mr sp cx
                rw [hy] at x2 mr sp cx
                clear hx hy
                have CX := Lib.hid cx.1
                have CY := Lib.hid cx.2
                clear cx
                obtain ⟨A, hA⟩ : ∃ A, nmL x = A := ⟨_, rfl⟩
                obtain ⟨B, hBB⟩ : ∃ B, nmL y = B := ⟨_, rfl⟩
                have hal : alB x y = decide (A = B) := by unfold alB; rw [hA, hBB]
                rw [hA] at CX
                rw [hBB] at CY
                rw [hal] at mr sp
                clear hal hA hBB
                rcases Bool.eq_false_or_eq_true (decide (A = B)) with hab | hab
                · obtain rfl : A = B := of_decide_eq_true hab
                  have HR := Lib.hid (mr hab (by have := HC.out; rw [hp, hr] at this; exact this))
                  clear mr sp
                  go_wp2_with fail
                  replace hB := hB.drew
                  replace x1 : wr.drew.cell? ⟨g1, p, none⟩ = some (.string ⟨x.toArray⟩) := x1
                  replace x2 : wr.drew.cell? ⟨g2, r, none⟩ = some (.string ⟨y.toArray⟩) := x2
                  replace hg1 : g1 < wr.drew.heap.size := hg1
                  replace hg2 : g2 < wr.drew.heap.size := hg2
                  refine wp_region_any (by kernel_rfl) ?_
                  change wpAny _ _ _ _ _ _ _ (World.drew _)
                  refine wpAny_take (i := 0) (v := .int .i64 (i : Int)) rfl (by kernel_rfl) (by kernel_rfl) (by kernel_rfl) (fun _ _ _ h => h) (Or.inl ⟨by kernel_rfl, fun W => by first | rfl | go_simp⟩) ?_
                  simp only [Act.put, List.getElem_toArray, List.getElem_cons_succ, List.getElem_cons_zero, List.setIfInBounds_toArray, List.set_cons_succ, List.set_cons_zero]
                  refine wpAny_take (i := 1) (v := .int .i64 (j : Int)) rfl (by kernel_rfl) (by kernel_rfl) (by kernel_rfl) (fun _ _ _ h => h) (Or.inl ⟨by kernel_rfl, fun W => by first | rfl | go_simp⟩) ?_
                  simp only [Act.put, List.getElem_toArray, List.getElem_cons_succ, List.getElem_cons_zero, List.setIfInBounds_toArray, List.set_cons_succ, List.set_cons_zero]
                  refine wpAny_take (i := 2) (v := .int .i64 (p : Int)) rfl (by kernel_rfl) (by kernel_rfl) (by kernel_rfl) (fun _ _ _ h => h) (Or.inl ⟨by kernel_rfl, fun W => by first | rfl | go_simp⟩) ?_
                  simp only [Act.put, List.getElem_toArray, List.getElem_cons_succ, List.getElem_cons_zero, List.setIfInBounds_toArray, List.set_cons_succ, List.set_cons_zero]
                  refine wpAny_take (i := 3) (v := .slice (some ⟨g1, 0, none⟩) na c1) rfl (by kernel_rfl) (by kernel_rfl) (by kernel_rfl) (fun _ _ _ h => h) (Or.inl ⟨by kernel_rfl, fun W => by first | rfl | go_simp⟩) ?_
                  simp only [Act.put, List.getElem_toArray, List.getElem_cons_succ, List.getElem_cons_zero, List.setIfInBounds_toArray, List.set_cons_succ, List.set_cons_zero]
                  refine wpAny_take (i := 4) (v := .int .i64 (na : Int)) rfl (by kernel_rfl) (by kernel_rfl) (by kernel_rfl) (fun _ _ _ h => h) (Or.inl ⟨by kernel_rfl, fun W => by first | rfl | go_simp⟩) ?_
                  simp only [Act.put, List.getElem_toArray, List.getElem_cons_succ, List.getElem_cons_zero, List.setIfInBounds_toArray, List.set_cons_succ, List.set_cons_zero]
                  refine wpAny_take (i := 5) (v := .bool true) rfl (by kernel_rfl) (by kernel_rfl) (by kernel_rfl) (fun _ _ _ h => h) (Or.inl ⟨by kernel_rfl, fun W => by first | rfl | go_simp⟩) ?_
                  simp only [Act.put, List.getElem_toArray, List.getElem_cons_succ, List.getElem_cons_zero, List.setIfInBounds_toArray, List.set_cons_succ, List.set_cons_zero]
                  refine wpAny_take (i := 6) (v := .bool true) rfl (by kernel_rfl) (by kernel_rfl) (by kernel_rfl) (fun _ _ _ h => h) (Or.inl ⟨by kernel_rfl, fun W => by first | rfl | go_simp⟩) ?_
                  simp only [Act.put, List.getElem_toArray, List.getElem_cons_succ, List.getElem_cons_zero, List.setIfInBounds_toArray, List.set_cons_succ, List.set_cons_zero]
                  refine wpAny_take (i := 7) (v := .int .i64 (k : Int)) rfl (by kernel_rfl) (by kernel_rfl) (by kernel_rfl) (fun _ _ _ h => h) (Or.inl ⟨by kernel_rfl, fun W => by first | rfl | go_simp⟩) ?_
                  simp only [Act.put, List.getElem_toArray, List.getElem_cons_succ, List.getElem_cons_zero, List.setIfInBounds_toArray, List.set_cons_succ, List.set_cons_zero]
                  refine wpAny_take (i := 8) (v := .int .i64 (j : Int)) rfl (by kernel_rfl) (by kernel_rfl) (by kernel_rfl) (fun _ _ _ h => h) (Or.inl ⟨by kernel_rfl, fun W => by first | rfl | go_simp⟩) ?_
                  simp only [Act.put, List.getElem_toArray, List.getElem_cons_succ, List.getElem_cons_zero, List.setIfInBounds_toArray, List.set_cons_succ, List.set_cons_zero]
                  refine wpAny_take (i := 9) (v := .int .i64 (r : Int)) rfl (by kernel_rfl) (by kernel_rfl) (by kernel_rfl) (fun _ _ _ h => h) (Or.inl ⟨by kernel_rfl, fun W => by first | rfl | go_simp⟩) ?_
                  simp only [Act.put, List.getElem_toArray, List.getElem_cons_succ, List.getElem_cons_zero, List.setIfInBounds_toArray, List.set_cons_succ, List.set_cons_zero]
                  refine wpAny_take (i := 10) (v := .slice (some ⟨g2, 0, none⟩) nb c2) rfl (by kernel_rfl) (by kernel_rfl) (by kernel_rfl) (fun _ _ _ h => h) (Or.inl ⟨by kernel_rfl, fun W => by first | rfl | go_simp⟩) ?_
                  simp only [Act.put, List.getElem_toArray, List.getElem_cons_succ, List.getElem_cons_zero, List.setIfInBounds_toArray, List.set_cons_succ, List.set_cons_zero]
                  refine wpAny_take (i := 11) (v := .int .i64 (nb : Int)) rfl (by kernel_rfl) (by kernel_rfl) (by kernel_rfl) (fun _ _ _ h => h) (Or.inl ⟨by kernel_rfl, fun W => by first | rfl | go_simp⟩) ?_
                  simp only [Act.put, List.getElem_toArray, List.getElem_cons_succ, List.getElem_cons_zero, List.setIfInBounds_toArray, List.set_cons_succ, List.set_cons_zero]
                  refine wpAny_take (i := 12) (v := .bool true) rfl (by kernel_rfl) (by kernel_rfl) (by kernel_rfl) (fun _ _ _ h => h) (Or.inl ⟨by kernel_rfl, fun W => by first | rfl | go_simp⟩) ?_
                  simp only [Act.put, List.getElem_toArray, List.getElem_cons_succ, List.getElem_cons_zero, List.setIfInBounds_toArray, List.set_cons_succ, List.set_cons_zero]
                  refine wpAny_take (i := 13) (v := .bool true) rfl (by kernel_rfl) (by kernel_rfl) (by kernel_rfl) (fun _ _ _ h => h) (Or.inl ⟨by kernel_rfl, fun W => by first | rfl | go_simp⟩) ?_
                  simp only [Act.put, List.getElem_toArray, List.getElem_cons_succ, List.getElem_cons_zero, List.setIfInBounds_toArray, List.set_cons_succ, List.set_cons_zero]
                  refine wpAny_take (i := 14) (v := .bool true) rfl (by kernel_rfl) (by kernel_rfl) (by kernel_rfl) (fun _ _ _ h => h) (Or.inl ⟨by kernel_rfl, fun W => by first | rfl | go_simp⟩) ?_
                  simp only [Act.put, List.getElem_toArray, List.getElem_cons_succ, List.getElem_cons_zero, List.setIfInBounds_toArray, List.set_cons_succ, List.set_cons_zero]
                  refine wpAny_take (i := 15) (v := .slice (some ⟨g1, 0, none⟩) na c1) rfl (by kernel_rfl) (by kernel_rfl) (by kernel_rfl) (fun _ _ _ h => h) (Or.inl ⟨by kernel_rfl, fun W => by first | rfl | go_simp⟩) ?_
                  simp only [Act.put, List.getElem_toArray, List.getElem_cons_succ, List.getElem_cons_zero, List.setIfInBounds_toArray, List.set_cons_succ, List.set_cons_zero]
                  refine wpAny_take (i := 16) (v := .int .i64 (i : Int)) rfl (by kernel_rfl) (by kernel_rfl) (by kernel_rfl) (fun _ _ _ h => h) (Or.inl ⟨by kernel_rfl, fun W => by first | rfl | go_simp⟩) ?_
                  simp only [Act.put, List.getElem_toArray, List.getElem_cons_succ, List.getElem_cons_zero, List.setIfInBounds_toArray, List.set_cons_succ, List.set_cons_zero]
                  refine wpAny_take (i := 17) (v := .int .i64 (j : Int)) rfl (by kernel_rfl) (by kernel_rfl) (by kernel_rfl) (fun _ _ _ h => h) (Or.inl ⟨by kernel_rfl, fun W => by first | rfl | go_simp⟩) ?_
                  simp only [Act.put, List.getElem_toArray, List.getElem_cons_succ, List.getElem_cons_zero, List.setIfInBounds_toArray, List.set_cons_succ, List.set_cons_zero]
                  refine wpAny_take (i := 18) (v := .int .i64 (p : Int)) rfl (by kernel_rfl) (by kernel_rfl) (by kernel_rfl) (fun _ _ _ h => h) (Or.inl ⟨by kernel_rfl, fun W => by first | rfl | go_simp⟩) ?_
                  simp only [Act.put, List.getElem_toArray, List.getElem_cons_succ, List.getElem_cons_zero, List.setIfInBounds_toArray, List.set_cons_succ, List.set_cons_zero]
                  refine wpAny_take (i := 19) (v := .pointer (some ⟨g1, p, none⟩)) rfl (by kernel_rfl) (by kernel_rfl) (by kernel_rfl) (fun _ _ _ h => h) (Or.inl ⟨by kernel_rfl, fun W => by first | rfl | go_simp⟩) ?_
                  simp only [Act.put, List.getElem_toArray, List.getElem_cons_succ, List.getElem_cons_zero, List.setIfInBounds_toArray, List.set_cons_succ, List.set_cons_zero]
                  refine wpAny_take (i := 22) (v := .slice (some ⟨g2, 0, none⟩) nb c2) rfl (by kernel_rfl) (by kernel_rfl) (by kernel_rfl) (fun _ _ _ h => h) (Or.inl ⟨by kernel_rfl, fun W => by first | rfl | go_simp⟩) ?_
                  simp only [Act.put, List.getElem_toArray, List.getElem_cons_succ, List.getElem_cons_zero, List.setIfInBounds_toArray, List.set_cons_succ, List.set_cons_zero]
                  refine wpAny_take (i := 23) (v := .int .i64 (k : Int)) rfl (by kernel_rfl) (by kernel_rfl) (by kernel_rfl) (fun _ _ _ h => h) (Or.inl ⟨by kernel_rfl, fun W => by first | rfl | go_simp⟩) ?_
                  simp only [Act.put, List.getElem_toArray, List.getElem_cons_succ, List.getElem_cons_zero, List.setIfInBounds_toArray, List.set_cons_succ, List.set_cons_zero]
                  refine wpAny_take (i := 24) (v := .int .i64 (j : Int)) rfl (by kernel_rfl) (by kernel_rfl) (by kernel_rfl) (fun _ _ _ h => h) (Or.inl ⟨by kernel_rfl, fun W => by first | rfl | go_simp⟩) ?_
                  simp only [Act.put, List.getElem_toArray, List.getElem_cons_succ, List.getElem_cons_zero, List.setIfInBounds_toArray, List.set_cons_succ, List.set_cons_zero]
                  refine wpAny_take (i := 25) (v := .int .i64 (r : Int)) rfl (by kernel_rfl) (by kernel_rfl) (by kernel_rfl) (fun _ _ _ h => h) (Or.inl ⟨by kernel_rfl, fun W => by first | rfl | go_simp⟩) ?_
                  simp only [Act.put, List.getElem_toArray, List.getElem_cons_succ, List.getElem_cons_zero, List.setIfInBounds_toArray, List.set_cons_succ, List.set_cons_zero]
                  refine wpAny_take (i := 26) (v := .pointer (some ⟨g2, r, none⟩)) rfl (by kernel_rfl) (by kernel_rfl) (by kernel_rfl) (fun _ _ _ h => h) (Or.inl ⟨by kernel_rfl, fun W => by first | rfl | go_simp⟩) ?_
                  simp only [Act.put, List.getElem_toArray, List.getElem_cons_succ, List.getElem_cons_zero, List.setIfInBounds_toArray, List.set_cons_succ, List.set_cons_zero]
                  refine wpAny_ready (rs := [20, 27]) (by kernel_rfl) (by simp) ?_
                  refine AllReady.cons rfl (fun K hK => ?_) (AllReady.cons rfl (fun K hK => ?_) AllReady.nil)
                  · go_simp
                    refine hK _ _ ?_
                    clear hK K
                    refine wpAny_ready (rs := [21, 27]) (by kernel_rfl) (by simp) ?_
                    refine AllReady.cons rfl (fun K hK => ?_) (AllReady.cons rfl (fun K hK => ?_) AllReady.nil)
                    · go_simp
                      go_at_call 175
                      refine (CX.out _).mono ?_
                      rintro e w3 ⟨rfl, hb3⟩
                      replace x1 := (hb3.cell (p := ⟨g1, p, none⟩) hg1).trans x1
                      replace x2 := (hb3.cell (p := ⟨g2, r, none⟩) hg2).trans x2
                      replace hB := hB.trans (hb3.mono hB.size)
                      replace hg1 := Nat.lt_of_lt_of_le hg1 hb3.size
                      replace hg2 := Nat.lt_of_lt_of_le hg2 hb3.size
                      clear hb3
                      refine hK _ _ ?_
                      clear hK K
                      refine wpAny_ready (rs := [27]) (by kernel_rfl) (by simp) ?_
                      refine AllReady.cons rfl (fun K hK => ?_) AllReady.nil
                      go_simp
                      refine hK _ _ ?_
                      clear hK K
                      refine wpAny_ready (rs := [28]) (by kernel_rfl) (by simp) ?_
                      refine AllReady.cons rfl (fun K hK => ?_) AllReady.nil
                      go_simp
                      go_at_call 175
                      refine (CY.out _).mono ?_
                      rintro e w3 ⟨rfl, hb3⟩
                      replace x1 := (hb3.cell (p := ⟨g1, p, none⟩) hg1).trans x1
                      replace x2 := (hb3.cell (p := ⟨g2, r, none⟩) hg2).trans x2
                      replace hB := hB.trans (hb3.mono hB.size)
                      replace hg1 := Nat.lt_of_lt_of_le hg1 hb3.size
                      replace hg2 := Nat.lt_of_lt_of_le hg2 hb3.size
                      clear hb3
                      refine hK _ _ ?_
                      clear hK K
                      refine wpAny_take (i := 29) (v := .bool true) rfl (by kernel_rfl) (by kernel_rfl) (by kernel_rfl) (fun _ _ _ h => h) (Or.inl ⟨by kernel_rfl, fun W => by first | rfl | go_simp⟩) ?_
                      simp only [Act.put, List.getElem_toArray, List.getElem_cons_succ, List.getElem_cons_zero, List.setIfInBounds_toArray, List.set_cons_succ, List.set_cons_zero]
                      refine wpAny_take (i := 30) (v := .bool true) rfl (by kernel_rfl) (by kernel_rfl) (by kernel_rfl) (fun _ _ _ h => h) (Or.inl ⟨by kernel_rfl, fun W => by first | rfl | go_simp⟩) ?_
                      simp only [Act.put, List.getElem_toArray, List.getElem_cons_succ, List.getElem_cons_zero, List.setIfInBounds_toArray, List.set_cons_succ, List.set_cons_zero]
                      refine wpAny_done (by kernel_rfl) ?_ _
                      try simp only [List.getElem_toArray, List.getElem_cons_succ, List.getElem_cons_zero, List.setIfInBounds_toArray, List.set_cons_succ, List.set_cons_zero]
                      go_wp2_with fail
                      go_roundw
                      case rel => exact ⟨j + 1, by omega, by go_num, HR, hB⟩
                      case measure => simp [intOf]; omega
                    · go_simp
                      refine hK _ _ ?_
                      clear hK K
                      refine wpAny_ready (rs := [21]) (by kernel_rfl) (by simp) ?_
                      refine AllReady.cons rfl (fun K hK => ?_) AllReady.nil
                      go_simp
                      go_at_call 175
                      refine (CX.out _).mono ?_
                      rintro e w3 ⟨rfl, hb3⟩
                      replace x1 := (hb3.cell (p := ⟨g1, p, none⟩) hg1).trans x1
                      replace x2 := (hb3.cell (p := ⟨g2, r, none⟩) hg2).trans x2
                      replace hB := hB.trans (hb3.mono hB.size)
                      replace hg1 := Nat.lt_of_lt_of_le hg1 hb3.size
                      replace hg2 := Nat.lt_of_lt_of_le hg2 hb3.size
                      clear hb3
                      refine hK _ _ ?_
                      clear hK K
                      refine wpAny_ready (rs := [28]) (by kernel_rfl) (by simp) ?_
                      refine AllReady.cons rfl (fun K hK => ?_) AllReady.nil
                      go_simp
                      go_at_call 175
                      refine (CY.out _).mono ?_
                      rintro e w3 ⟨rfl, hb3⟩
                      replace x1 := (hb3.cell (p := ⟨g1, p, none⟩) hg1).trans x1
                      replace x2 := (hb3.cell (p := ⟨g2, r, none⟩) hg2).trans x2
                      replace hB := hB.trans (hb3.mono hB.size)
                      replace hg1 := Nat.lt_of_lt_of_le hg1 hb3.size
                      replace hg2 := Nat.lt_of_lt_of_le hg2 hb3.size
                      clear hb3
                      refine hK _ _ ?_
                      clear hK K
                      refine wpAny_take (i := 29) (v := .bool true) rfl (by kernel_rfl) (by kernel_rfl) (by kernel_rfl) (fun _ _ _ h => h) (Or.inl ⟨by kernel_rfl, fun W => by first | rfl | go_simp⟩) ?_
                      simp only [Act.put, List.getElem_toArray, List.getElem_cons_succ, List.getElem_cons_zero, List.setIfInBounds_toArray, List.set_cons_succ, List.set_cons_zero]
                      refine wpAny_take (i := 30) (v := .bool true) rfl (by kernel_rfl) (by kernel_rfl) (by kernel_rfl) (fun _ _ _ h => h) (Or.inl ⟨by kernel_rfl, fun W => by first | rfl | go_simp⟩) ?_
                      simp only [Act.put, List.getElem_toArray, List.getElem_cons_succ, List.getElem_cons_zero, List.setIfInBounds_toArray, List.set_cons_succ, List.set_cons_zero]
                      refine wpAny_done (by kernel_rfl) ?_ _
                      try simp only [List.getElem_toArray, List.getElem_cons_succ, List.getElem_cons_zero, List.setIfInBounds_toArray, List.set_cons_succ, List.set_cons_zero]
                      go_wp2_with fail
                      go_roundw
                      case rel => exact ⟨j + 1, by omega, by go_num, HR, hB⟩
                      case measure => simp [intOf]; omega
                  · go_simp
                    refine hK _ _ ?_
                    clear hK K
                    refine wpAny_ready (rs := [20]) (by kernel_rfl) (by simp) ?_
                    refine AllReady.cons rfl (fun K hK => ?_) AllReady.nil
                    go_simp
                    refine hK _ _ ?_
                    clear hK K
                    refine wpAny_ready (rs := [21]) (by kernel_rfl) (by simp) ?_
                    refine AllReady.cons rfl (fun K hK => ?_) AllReady.nil
                    go_simp
                    go_at_call 175
                    refine (CX.out _).mono ?_
                    rintro e w3 ⟨rfl, hb3⟩
                    replace x1 := (hb3.cell (p := ⟨g1, p, none⟩) hg1).trans x1
                    replace x2 := (hb3.cell (p := ⟨g2, r, none⟩) hg2).trans x2
                    replace hB := hB.trans (hb3.mono hB.size)
                    replace hg1 := Nat.lt_of_lt_of_le hg1 hb3.size
                    replace hg2 := Nat.lt_of_lt_of_le hg2 hb3.size
                    clear hb3
                    refine hK _ _ ?_
                    clear hK K
                    refine wpAny_ready (rs := [28]) (by kernel_rfl) (by simp) ?_
                    refine AllReady.cons rfl (fun K hK => ?_) AllReady.nil
                    go_simp
                    go_at_call 175
                    refine (CY.out _).mono ?_
                    rintro e w3 ⟨rfl, hb3⟩
                    replace x1 := (hb3.cell (p := ⟨g1, p, none⟩) hg1).trans x1
                    replace x2 := (hb3.cell (p := ⟨g2, r, none⟩) hg2).trans x2
                    replace hB := hB.trans (hb3.mono hB.size)
                    replace hg1 := Nat.lt_of_lt_of_le hg1 hb3.size
                    replace hg2 := Nat.lt_of_lt_of_le hg2 hb3.size
                    clear hb3
                    refine hK _ _ ?_
                    clear hK K
                    refine wpAny_take (i := 29) (v := .bool true) rfl (by kernel_rfl) (by kernel_rfl) (by kernel_rfl) (fun _ _ _ h => h) (Or.inl ⟨by kernel_rfl, fun W => by first | rfl | go_simp⟩) ?_
                    simp only [Act.put, List.getElem_toArray, List.getElem_cons_succ, List.getElem_cons_zero, List.setIfInBounds_toArray, List.set_cons_succ, List.set_cons_zero]
                    refine wpAny_take (i := 30) (v := .bool true) rfl (by kernel_rfl) (by kernel_rfl) (by kernel_rfl) (fun _ _ _ h => h) (Or.inl ⟨by kernel_rfl, fun W => by first | rfl | go_simp⟩) ?_
                    simp only [Act.put, List.getElem_toArray, List.getElem_cons_succ, List.getElem_cons_zero, List.setIfInBounds_toArray, List.set_cons_succ, List.set_cons_zero]
                    refine wpAny_done (by kernel_rfl) ?_ _
                    try simp only [List.getElem_toArray, List.getElem_cons_succ, List.getElem_cons_zero, List.setIfInBounds_toArray, List.set_cons_succ, List.set_cons_zero]
                    go_wp2_with fail
                    go_roundw
                    case rel => exact ⟨j + 1, by omega, by go_num, HR, hB⟩
                    case measure => simp [intOf]; omega
                · have hne2 : ¬ A = B := of_decide_eq_false hab
                  have hne3 : decide ((⟨A.toArray⟩ : ByteArray) = ⟨B.toArray⟩) = false := by simpa using hne2
                  have hne4 : (A == B) = false := by simpa using hne2
                  have HR := Lib.hid (sp (fun h => by rw [hab] at h; exact absurd h.2.2 (by decide)) (by have := HC.out; rw [hp, hr] at this; exact this))
                  clear mr sp
                  go_wp2_with fail
                  replace hB := hB.drew
                  replace x1 : wr.drew.cell? ⟨g1, p, none⟩ = some (.string ⟨x.toArray⟩) := x1
                  replace x2 : wr.drew.cell? ⟨g2, r, none⟩ = some (.string ⟨y.toArray⟩) := x2
                  replace hg1 : g1 < wr.drew.heap.size := hg1
                  replace hg2 : g2 < wr.drew.heap.size := hg2
                  refine wp_region_any (by kernel_rfl) ?_
                  change wpAny _ _ _ _ _ _ _ (World.drew _)
                  refine wpAny_take (i := 0) (v := .int .i64 (i : Int)) rfl (by kernel_rfl) (by kernel_rfl) (by kernel_rfl) (fun _ _ _ h => h) (Or.inl ⟨by kernel_rfl, fun W => by first | rfl | go_simp⟩) ?_
                  simp only [Act.put, List.getElem_toArray, List.getElem_cons_succ, List.getElem_cons_zero, List.setIfInBounds_toArray, List.set_cons_succ, List.set_cons_zero]
                  refine wpAny_take (i := 1) (v := .int .i64 (j : Int)) rfl (by kernel_rfl) (by kernel_rfl) (by kernel_rfl) (fun _ _ _ h => h) (Or.inl ⟨by kernel_rfl, fun W => by first | rfl | go_simp⟩) ?_
                  simp only [Act.put, List.getElem_toArray, List.getElem_cons_succ, List.getElem_cons_zero, List.setIfInBounds_toArray, List.set_cons_succ, List.set_cons_zero]
                  refine wpAny_take (i := 2) (v := .int .i64 (p : Int)) rfl (by kernel_rfl) (by kernel_rfl) (by kernel_rfl) (fun _ _ _ h => h) (Or.inl ⟨by kernel_rfl, fun W => by first | rfl | go_simp⟩) ?_
                  simp only [Act.put, List.getElem_toArray, List.getElem_cons_succ, List.getElem_cons_zero, List.setIfInBounds_toArray, List.set_cons_succ, List.set_cons_zero]
                  refine wpAny_take (i := 3) (v := .slice (some ⟨g1, 0, none⟩) na c1) rfl (by kernel_rfl) (by kernel_rfl) (by kernel_rfl) (fun _ _ _ h => h) (Or.inl ⟨by kernel_rfl, fun W => by first | rfl | go_simp⟩) ?_
                  simp only [Act.put, List.getElem_toArray, List.getElem_cons_succ, List.getElem_cons_zero, List.setIfInBounds_toArray, List.set_cons_succ, List.set_cons_zero]
                  refine wpAny_take (i := 4) (v := .int .i64 (na : Int)) rfl (by kernel_rfl) (by kernel_rfl) (by kernel_rfl) (fun _ _ _ h => h) (Or.inl ⟨by kernel_rfl, fun W => by first | rfl | go_simp⟩) ?_
                  simp only [Act.put, List.getElem_toArray, List.getElem_cons_succ, List.getElem_cons_zero, List.setIfInBounds_toArray, List.set_cons_succ, List.set_cons_zero]
                  refine wpAny_take (i := 5) (v := .bool true) rfl (by kernel_rfl) (by kernel_rfl) (by kernel_rfl) (fun _ _ _ h => h) (Or.inl ⟨by kernel_rfl, fun W => by first | rfl | go_simp⟩) ?_
                  simp only [Act.put, List.getElem_toArray, List.getElem_cons_succ, List.getElem_cons_zero, List.setIfInBounds_toArray, List.set_cons_succ, List.set_cons_zero]
                  refine wpAny_take (i := 6) (v := .bool true) rfl (by kernel_rfl) (by kernel_rfl) (by kernel_rfl) (fun _ _ _ h => h) (Or.inl ⟨by kernel_rfl, fun W => by first | rfl | go_simp⟩) ?_
                  simp only [Act.put, List.getElem_toArray, List.getElem_cons_succ, List.getElem_cons_zero, List.setIfInBounds_toArray, List.set_cons_succ, List.set_cons_zero]
                  refine wpAny_take (i := 7) (v := .int .i64 (k : Int)) rfl (by kernel_rfl) (by kernel_rfl) (by kernel_rfl) (fun _ _ _ h => h) (Or.inl ⟨by kernel_rfl, fun W => by first | rfl | go_simp⟩) ?_
                  simp only [Act.put, List.getElem_toArray, List.getElem_cons_succ, List.getElem_cons_zero, List.setIfInBounds_toArray, List.set_cons_succ, List.set_cons_zero]
                  refine wpAny_take (i := 8) (v := .int .i64 (j : Int)) rfl (by kernel_rfl) (by kernel_rfl) (by kernel_rfl) (fun _ _ _ h => h) (Or.inl ⟨by kernel_rfl, fun W => by first | rfl | go_simp⟩) ?_
                  simp only [Act.put, List.getElem_toArray, List.getElem_cons_succ, List.getElem_cons_zero, List.setIfInBounds_toArray, List.set_cons_succ, List.set_cons_zero]
                  refine wpAny_take (i := 9) (v := .int .i64 (r : Int)) rfl (by kernel_rfl) (by kernel_rfl) (by kernel_rfl) (fun _ _ _ h => h) (Or.inl ⟨by kernel_rfl, fun W => by first | rfl | go_simp⟩) ?_
                  simp only [Act.put, List.getElem_toArray, List.getElem_cons_succ, List.getElem_cons_zero, List.setIfInBounds_toArray, List.set_cons_succ, List.set_cons_zero]
                  refine wpAny_take (i := 10) (v := .slice (some ⟨g2, 0, none⟩) nb c2) rfl (by kernel_rfl) (by kernel_rfl) (by kernel_rfl) (fun _ _ _ h => h) (Or.inl ⟨by kernel_rfl, fun W => by first | rfl | go_simp⟩) ?_
                  simp only [Act.put, List.getElem_toArray, List.getElem_cons_succ, List.getElem_cons_zero, List.setIfInBounds_toArray, List.set_cons_succ, List.set_cons_zero]
                  refine wpAny_take (i := 11) (v := .int .i64 (nb : Int)) rfl (by kernel_rfl) (by kernel_rfl) (by kernel_rfl) (fun _ _ _ h => h) (Or.inl ⟨by kernel_rfl, fun W => by first | rfl | go_simp⟩) ?_
                  simp only [Act.put, List.getElem_toArray, List.getElem_cons_succ, List.getElem_cons_zero, List.setIfInBounds_toArray, List.set_cons_succ, List.set_cons_zero]
                  refine wpAny_take (i := 12) (v := .bool true) rfl (by kernel_rfl) (by kernel_rfl) (by kernel_rfl) (fun _ _ _ h => h) (Or.inl ⟨by kernel_rfl, fun W => by first | rfl | go_simp⟩) ?_
                  simp only [Act.put, List.getElem_toArray, List.getElem_cons_succ, List.getElem_cons_zero, List.setIfInBounds_toArray, List.set_cons_succ, List.set_cons_zero]
                  refine wpAny_take (i := 13) (v := .bool true) rfl (by kernel_rfl) (by kernel_rfl) (by kernel_rfl) (fun _ _ _ h => h) (Or.inl ⟨by kernel_rfl, fun W => by first | rfl | go_simp⟩) ?_
                  simp only [Act.put, List.getElem_toArray, List.getElem_cons_succ, List.getElem_cons_zero, List.setIfInBounds_toArray, List.set_cons_succ, List.set_cons_zero]
                  refine wpAny_take (i := 14) (v := .bool true) rfl (by kernel_rfl) (by kernel_rfl) (by kernel_rfl) (fun _ _ _ h => h) (Or.inl ⟨by kernel_rfl, fun W => by first | rfl | go_simp⟩) ?_
                  simp only [Act.put, List.getElem_toArray, List.getElem_cons_succ, List.getElem_cons_zero, List.setIfInBounds_toArray, List.set_cons_succ, List.set_cons_zero]
                  refine wpAny_take (i := 15) (v := .slice (some ⟨g1, 0, none⟩) na c1) rfl (by kernel_rfl) (by kernel_rfl) (by kernel_rfl) (fun _ _ _ h => h) (Or.inl ⟨by kernel_rfl, fun W => by first | rfl | go_simp⟩) ?_
                  simp only [Act.put, List.getElem_toArray, List.getElem_cons_succ, List.getElem_cons_zero, List.setIfInBounds_toArray, List.set_cons_succ, List.set_cons_zero]
                  refine wpAny_take (i := 16) (v := .int .i64 (i : Int)) rfl (by kernel_rfl) (by kernel_rfl) (by kernel_rfl) (fun _ _ _ h => h) (Or.inl ⟨by kernel_rfl, fun W => by first | rfl | go_simp⟩) ?_
                  simp only [Act.put, List.getElem_toArray, List.getElem_cons_succ, List.getElem_cons_zero, List.setIfInBounds_toArray, List.set_cons_succ, List.set_cons_zero]
                  refine wpAny_take (i := 17) (v := .int .i64 (j : Int)) rfl (by kernel_rfl) (by kernel_rfl) (by kernel_rfl) (fun _ _ _ h => h) (Or.inl ⟨by kernel_rfl, fun W => by first | rfl | go_simp⟩) ?_
                  simp only [Act.put, List.getElem_toArray, List.getElem_cons_succ, List.getElem_cons_zero, List.setIfInBounds_toArray, List.set_cons_succ, List.set_cons_zero]
                  refine wpAny_take (i := 18) (v := .int .i64 (p : Int)) rfl (by kernel_rfl) (by kernel_rfl) (by kernel_rfl) (fun _ _ _ h => h) (Or.inl ⟨by kernel_rfl, fun W => by first | rfl | go_simp⟩) ?_
                  simp only [Act.put, List.getElem_toArray, List.getElem_cons_succ, List.getElem_cons_zero, List.setIfInBounds_toArray, List.set_cons_succ, List.set_cons_zero]
                  refine wpAny_take (i := 19) (v := .pointer (some ⟨g1, p, none⟩)) rfl (by kernel_rfl) (by kernel_rfl) (by kernel_rfl) (fun _ _ _ h => h) (Or.inl ⟨by kernel_rfl, fun W => by first | rfl | go_simp⟩) ?_
                  simp only [Act.put, List.getElem_toArray, List.getElem_cons_succ, List.getElem_cons_zero, List.setIfInBounds_toArray, List.set_cons_succ, List.set_cons_zero]
                  refine wpAny_take (i := 22) (v := .slice (some ⟨g2, 0, none⟩) nb c2) rfl (by kernel_rfl) (by kernel_rfl) (by kernel_rfl) (fun _ _ _ h => h) (Or.inl ⟨by kernel_rfl, fun W => by first | rfl | go_simp⟩) ?_
                  simp only [Act.put, List.getElem_toArray, List.getElem_cons_succ, List.getElem_cons_zero, List.setIfInBounds_toArray, List.set_cons_succ, List.set_cons_zero]
                  refine wpAny_take (i := 23) (v := .int .i64 (k : Int)) rfl (by kernel_rfl) (by kernel_rfl) (by kernel_rfl) (fun _ _ _ h => h) (Or.inl ⟨by kernel_rfl, fun W => by first | rfl | go_simp⟩) ?_
                  simp only [Act.put, List.getElem_toArray, List.getElem_cons_succ, List.getElem_cons_zero, List.setIfInBounds_toArray, List.set_cons_succ, List.set_cons_zero]
                  refine wpAny_take (i := 24) (v := .int .i64 (j : Int)) rfl (by kernel_rfl) (by kernel_rfl) (by kernel_rfl) (fun _ _ _ h => h) (Or.inl ⟨by kernel_rfl, fun W => by first | rfl | go_simp⟩) ?_
                  simp only [Act.put, List.getElem_toArray, List.getElem_cons_succ, List.getElem_cons_zero, List.setIfInBounds_toArray, List.set_cons_succ, List.set_cons_zero]
                  refine wpAny_take (i := 25) (v := .int .i64 (r : Int)) rfl (by kernel_rfl) (by kernel_rfl) (by kernel_rfl) (fun _ _ _ h => h) (Or.inl ⟨by kernel_rfl, fun W => by first | rfl | go_simp⟩) ?_
                  simp only [Act.put, List.getElem_toArray, List.getElem_cons_succ, List.getElem_cons_zero, List.setIfInBounds_toArray, List.set_cons_succ, List.set_cons_zero]
                  refine wpAny_take (i := 26) (v := .pointer (some ⟨g2, r, none⟩)) rfl (by kernel_rfl) (by kernel_rfl) (by kernel_rfl) (fun _ _ _ h => h) (Or.inl ⟨by kernel_rfl, fun W => by first | rfl | go_simp⟩) ?_
                  simp only [Act.put, List.getElem_toArray, List.getElem_cons_succ, List.getElem_cons_zero, List.setIfInBounds_toArray, List.set_cons_succ, List.set_cons_zero]
                  refine wpAny_ready (rs := [20, 27]) (by kernel_rfl) (by simp) ?_
                  refine AllReady.cons rfl (fun K hK => ?_) (AllReady.cons rfl (fun K hK => ?_) AllReady.nil)
                  · go_simp
                    refine hK _ _ ?_
                    clear hK K
                    refine wpAny_ready (rs := [21, 27]) (by kernel_rfl) (by simp) ?_
                    refine AllReady.cons rfl (fun K hK => ?_) (AllReady.cons rfl (fun K hK => ?_) AllReady.nil)
                    · go_simp
                      go_at_call 175
                      refine (CX.out _).mono ?_
                      rintro e w3 ⟨rfl, hb3⟩
                      replace x1 := (hb3.cell (p := ⟨g1, p, none⟩) hg1).trans x1
                      replace x2 := (hb3.cell (p := ⟨g2, r, none⟩) hg2).trans x2
                      replace hB := hB.trans (hb3.mono hB.size)
                      replace hg1 := Nat.lt_of_lt_of_le hg1 hb3.size
                      replace hg2 := Nat.lt_of_lt_of_le hg2 hb3.size
                      clear hb3
                      refine hK _ _ ?_
                      clear hK K
                      refine wpAny_ready (rs := [27]) (by kernel_rfl) (by simp) ?_
                      refine AllReady.cons rfl (fun K hK => ?_) AllReady.nil
                      go_simp
                      refine hK _ _ ?_
                      clear hK K
                      refine wpAny_ready (rs := [28]) (by kernel_rfl) (by simp) ?_
                      refine AllReady.cons rfl (fun K hK => ?_) AllReady.nil
                      go_simp
                      go_at_call 175
                      refine (CY.out _).mono ?_
                      rintro e w3 ⟨rfl, hb3⟩
                      replace x1 := (hb3.cell (p := ⟨g1, p, none⟩) hg1).trans x1
                      replace x2 := (hb3.cell (p := ⟨g2, r, none⟩) hg2).trans x2
                      replace hB := hB.trans (hb3.mono hB.size)
                      replace hg1 := Nat.lt_of_lt_of_le hg1 hb3.size
                      replace hg2 := Nat.lt_of_lt_of_le hg2 hb3.size
                      clear hb3
                      refine hK _ _ ?_
                      clear hK K
                      refine wpAny_take (i := 29) (v := .bool false) rfl (by kernel_rfl) (by kernel_rfl) (by kernel_rfl) (fun _ _ _ h => h) (Or.inl ⟨by kernel_rfl, fun W => by first | rfl | go_simp⟩) ?_
                      simp only [Act.put, List.getElem_toArray, List.getElem_cons_succ, List.getElem_cons_zero, List.setIfInBounds_toArray, List.set_cons_succ, List.set_cons_zero]
                      refine wpAny_take (i := 30) (v := .bool false) rfl (by kernel_rfl) (by kernel_rfl) (by kernel_rfl) (fun _ _ _ h => h) (Or.inl ⟨by kernel_rfl, fun W => by first | rfl | go_simp⟩) ?_
                      simp only [Act.put, List.getElem_toArray, List.getElem_cons_succ, List.getElem_cons_zero, List.setIfInBounds_toArray, List.set_cons_succ, List.set_cons_zero]
                      refine wpAny_done (by kernel_rfl) ?_ _
                      try simp only [List.getElem_toArray, List.getElem_cons_succ, List.getElem_cons_zero, List.setIfInBounds_toArray, List.set_cons_succ, List.set_cons_zero]
                      have e2 := E2.out i k
                      rw [HR.out] at e2
                      have cl : j ≤ 60 := by omega
                      clear HR HC
                      by_cases hmx : (F2 i k : Nat) < j
                      · have e3 : F2 i (k + 1) = j := by rw [e2]; omega
                        have hmx2 : ((F2 i k : Nat) : Int) < (j : Int) := by omega
                        have HE := Lib.hid e3
                        clear e2 e3
                        obtain ⟨m, hm⟩ : ∃ m, F2 i k = m := ⟨_, rfl⟩
                        rw [hm] at hmx hmx2 f2 ⊢
                        clear hm
                        go_wp2_with fail
                        go_roundw
                        case rel => exact ⟨k + 1, by omega, by go_num, by rw [HE.out], ⟨_, rfl⟩, hB⟩
                        case measure => simp [intOf]; omega
                      · have e3 : F2 i (k + 1) = F2 i k := by rw [e2]; omega
                        replace hmx : j ≤ F2 i k := by omega
                        obtain ⟨m, hm⟩ : ∃ m, F2 i k = m := ⟨_, rfl⟩
                        rw [hm] at hmx f2 e3 ⊢
                        have HE := Lib.hid e3
                        clear e2 e3 hm
                        go_wp2_with fail
                        go_roundw
                        case rel => exact ⟨k + 1, by omega, by go_num, by rw [HE.out], ⟨_, rfl⟩, hB⟩
                        case measure => simp [intOf]; omega
                    · go_simp
                      refine hK _ _ ?_
                      clear hK K
                      refine wpAny_ready (rs := [21]) (by kernel_rfl) (by simp) ?_
                      refine AllReady.cons rfl (fun K hK => ?_) AllReady.nil
                      go_simp
                      go_at_call 175
                      refine (CX.out _).mono ?_
                      rintro e w3 ⟨rfl, hb3⟩
                      replace x1 := (hb3.cell (p := ⟨g1, p, none⟩) hg1).trans x1
                      replace x2 := (hb3.cell (p := ⟨g2, r, none⟩) hg2).trans x2
                      replace hB := hB.trans (hb3.mono hB.size)
                      replace hg1 := Nat.lt_of_lt_of_le hg1 hb3.size
                      replace hg2 := Nat.lt_of_lt_of_le hg2 hb3.size
                      clear hb3
                      refine hK _ _ ?_
                      clear hK K
                      refine wpAny_ready (rs := [28]) (by kernel_rfl) (by simp) ?_
                      refine AllReady.cons rfl (fun K hK => ?_) AllReady.nil
                      go_simp
                      go_at_call 175
                      refine (CY.out _).mono ?_
                      rintro e w3 ⟨rfl, hb3⟩
                      replace x1 := (hb3.cell (p := ⟨g1, p, none⟩) hg1).trans x1
                      replace x2 := (hb3.cell (p := ⟨g2, r, none⟩) hg2).trans x2
                      replace hB := hB.trans (hb3.mono hB.size)
                      replace hg1 := Nat.lt_of_lt_of_le hg1 hb3.size
                      replace hg2 := Nat.lt_of_lt_of_le hg2 hb3.size
                      clear hb3
                      refine hK _ _ ?_
                      clear hK K
                      refine wpAny_take (i := 29) (v := .bool false) rfl (by kernel_rfl) (by kernel_rfl) (by kernel_rfl) (fun _ _ _ h => h) (Or.inl ⟨by kernel_rfl, fun W => by first | rfl | go_simp⟩) ?_
                      simp only [Act.put, List.getElem_toArray, List.getElem_cons_succ, List.getElem_cons_zero, List.setIfInBounds_toArray, List.set_cons_succ, List.set_cons_zero]
                      refine wpAny_take (i := 30) (v := .bool false) rfl (by kernel_rfl) (by kernel_rfl) (by kernel_rfl) (fun _ _ _ h => h) (Or.inl ⟨by kernel_rfl, fun W => by first | rfl | go_simp⟩) ?_
                      simp only [Act.put, List.getElem_toArray, List.getElem_cons_succ, List.getElem_cons_zero, List.setIfInBounds_toArray, List.set_cons_succ, List.set_cons_zero]
                      refine wpAny_done (by kernel_rfl) ?_ _
                      try simp only [List.getElem_toArray, List.getElem_cons_succ, List.getElem_cons_zero, List.setIfInBounds_toArray, List.set_cons_succ, List.set_cons_zero]
                      have e2 := E2.out i k
                      rw [HR.out] at e2
                      have cl : j ≤ 60 := by omega
                      clear HR HC
                      by_cases hmx : (F2 i k : Nat) < j
                      · have e3 : F2 i (k + 1) = j := by rw [e2]; omega
                        have hmx2 : ((F2 i k : Nat) : Int) < (j : Int) := by omega
                        have HE := Lib.hid e3
                        clear e2 e3
                        obtain ⟨m, hm⟩ : ∃ m, F2 i k = m := ⟨_, rfl⟩
                        rw [hm] at hmx hmx2 f2 ⊢
                        clear hm
                        go_wp2_with fail
                        go_roundw
                        case rel => exact ⟨k + 1, by omega, by go_num, by rw [HE.out], ⟨_, rfl⟩, hB⟩
                        case measure => simp [intOf]; omega
                      · have e3 : F2 i (k + 1) = F2 i k := by rw [e2]; omega
                        replace hmx : j ≤ F2 i k := by omega
                        obtain ⟨m, hm⟩ : ∃ m, F2 i k = m := ⟨_, rfl⟩
                        rw [hm] at hmx f2 e3 ⊢
                        have HE := Lib.hid e3
                        clear e2 e3 hm
                        go_wp2_with fail
                        go_roundw
                        case rel => exact ⟨k + 1, by omega, by go_num, by rw [HE.out], ⟨_, rfl⟩, hB⟩
                        case measure => simp [intOf]; omega
                  · go_simp
                    refine hK _ _ ?_
                    clear hK K
                    refine wpAny_ready (rs := [20]) (by kernel_rfl) (by simp) ?_
                    refine AllReady.cons rfl (fun K hK => ?_) AllReady.nil
                    go_simp
                    refine hK _ _ ?_
                    clear hK K
                    refine wpAny_ready (rs := [21]) (by kernel_rfl) (by simp) ?_
                    refine AllReady.cons rfl (fun K hK => ?_) AllReady.nil
                    go_simp
                    go_at_call 175
                    refine (CX.out _).mono ?_
                    rintro e w3 ⟨rfl, hb3⟩
                    replace x1 := (hb3.cell (p := ⟨g1, p, none⟩) hg1).trans x1
                    replace x2 := (hb3.cell (p := ⟨g2, r, none⟩) hg2).trans x2
                    replace hB := hB.trans (hb3.mono hB.size)
                    replace hg1 := Nat.lt_of_lt_of_le hg1 hb3.size
                    replace hg2 := Nat.lt_of_lt_of_le hg2 hb3.size
                    clear hb3
                    refine hK _ _ ?_
                    clear hK K
                    refine wpAny_ready (rs := [28]) (by kernel_rfl) (by simp) ?_
                    refine AllReady.cons rfl (fun K hK => ?_) AllReady.nil
                    go_simp
                    go_at_call 175
                    refine (CY.out _).mono ?_
                    rintro e w3 ⟨rfl, hb3⟩
                    replace x1 := (hb3.cell (p := ⟨g1, p, none⟩) hg1).trans x1
                    replace x2 := (hb3.cell (p := ⟨g2, r, none⟩) hg2).trans x2
                    replace hB := hB.trans (hb3.mono hB.size)
                    replace hg1 := Nat.lt_of_lt_of_le hg1 hb3.size
                    replace hg2 := Nat.lt_of_lt_of_le hg2 hb3.size
                    clear hb3
                    refine hK _ _ ?_
                    clear hK K
                    refine wpAny_take (i := 29) (v := .bool false) rfl (by kernel_rfl) (by kernel_rfl) (by kernel_rfl) (fun _ _ _ h => h) (Or.inl ⟨by kernel_rfl, fun W => by first | rfl | go_simp⟩) ?_
                    simp only [Act.put, List.getElem_toArray, List.getElem_cons_succ, List.getElem_cons_zero, List.setIfInBounds_toArray, List.set_cons_succ, List.set_cons_zero]
                    refine wpAny_take (i := 30) (v := .bool false) rfl (by kernel_rfl) (by kernel_rfl) (by kernel_rfl) (fun _ _ _ h => h) (Or.inl ⟨by kernel_rfl, fun W => by first | rfl | go_simp⟩) ?_
                    simp only [Act.put, List.getElem_toArray, List.getElem_cons_succ, List.getElem_cons_zero, List.setIfInBounds_toArray, List.set_cons_succ, List.set_cons_zero]
                    refine wpAny_done (by kernel_rfl) ?_ _
                    try simp only [List.getElem_toArray, List.getElem_cons_succ, List.getElem_cons_zero, List.setIfInBounds_toArray, List.set_cons_succ, List.set_cons_zero]
                    have e2 := E2.out i k
                    rw [HR.out] at e2
                    have cl : j ≤ 60 := by omega
                    clear HR HC
                    by_cases hmx : (F2 i k : Nat) < j
                    · have e3 : F2 i (k + 1) = j := by rw [e2]; omega
                      have hmx2 : ((F2 i k : Nat) : Int) < (j : Int) := by omega
                      have HE := Lib.hid e3
                      clear e2 e3
                      obtain ⟨m, hm⟩ : ∃ m, F2 i k = m := ⟨_, rfl⟩
                      rw [hm] at hmx hmx2 f2 ⊢
                      clear hm
                      go_wp2_with fail
                      go_roundw
                      case rel => exact ⟨k + 1, by omega, by go_num, by rw [HE.out], ⟨_, rfl⟩, hB⟩
                      case measure => simp [intOf]; omega
                    · have e3 : F2 i (k + 1) = F2 i k := by rw [e2]; omega
                      replace hmx : j ≤ F2 i k := by omega
                      obtain ⟨m, hm⟩ : ∃ m, F2 i k = m := ⟨_, rfl⟩
                      rw [hm] at hmx f2 e3 ⊢
                      have HE := Lib.hid e3
                      clear e2 e3 hm
                      go_wp2_with fail
                      go_roundw
                      case rel => exact ⟨k + 1, by omega, by go_num, by rw [HE.out], ⟨_, rfl⟩, hB⟩
                      case measure => simp [intOf]; omega
              · have HR := Lib.hid (SP.out i k j (by omega) HC.out)
                have hrb' : nb ≤ r := by omega
                clear hrb
                go_wp2_with fail
                refine wp_region_any (by kernel_rfl) ?_
                change wpAny _ _ _ _ _ _ _ (World.drew _)
                refine wpAny_take (i := 0) (v := .int .i64 (i : Int)) rfl (by kernel_rfl) (by kernel_rfl) (by kernel_rfl) (fun _ _ _ h => h) (Or.inl ⟨by kernel_rfl, fun W => by first | rfl | go_simp⟩) ?_
                simp only [Act.put, List.getElem_toArray, List.getElem_cons_succ, List.getElem_cons_zero, List.setIfInBounds_toArray, List.set_cons_succ, List.set_cons_zero]
                refine wpAny_take (i := 1) (v := .int .i64 (j : Int)) rfl (by kernel_rfl) (by kernel_rfl) (by kernel_rfl) (fun _ _ _ h => h) (Or.inl ⟨by kernel_rfl, fun W => by first | rfl | go_simp⟩) ?_
                simp only [Act.put, List.getElem_toArray, List.getElem_cons_succ, List.getElem_cons_zero, List.setIfInBounds_toArray, List.set_cons_succ, List.set_cons_zero]
                refine wpAny_take (i := 2) (v := .int .i64 (p : Int)) rfl (by kernel_rfl) (by kernel_rfl) (by kernel_rfl) (fun _ _ _ h => h) (Or.inl ⟨by kernel_rfl, fun W => by first | rfl | go_simp⟩) ?_
                simp only [Act.put, List.getElem_toArray, List.getElem_cons_succ, List.getElem_cons_zero, List.setIfInBounds_toArray, List.set_cons_succ, List.set_cons_zero]
                refine wpAny_take (i := 3) (v := .slice A1 na c1) rfl (by kernel_rfl) (by kernel_rfl) (by kernel_rfl) (fun _ _ _ h => h) (Or.inl ⟨by kernel_rfl, fun W => by first | rfl | go_simp⟩) ?_
                simp only [Act.put, List.getElem_toArray, List.getElem_cons_succ, List.getElem_cons_zero, List.setIfInBounds_toArray, List.set_cons_succ, List.set_cons_zero]
                refine wpAny_take (i := 4) (v := .int .i64 (na : Int)) rfl (by kernel_rfl) (by kernel_rfl) (by kernel_rfl) (fun _ _ _ h => h) (Or.inl ⟨by kernel_rfl, fun W => by first | rfl | go_simp⟩) ?_
                simp only [Act.put, List.getElem_toArray, List.getElem_cons_succ, List.getElem_cons_zero, List.setIfInBounds_toArray, List.set_cons_succ, List.set_cons_zero]
                refine wpAny_take (i := 5) (v := .bool true) rfl (by kernel_rfl) (by kernel_rfl) (by kernel_rfl) (fun _ _ _ h => h) (Or.inl ⟨by kernel_rfl, fun W => by first | rfl | go_simp⟩) ?_
                simp only [Act.put, List.getElem_toArray, List.getElem_cons_succ, List.getElem_cons_zero, List.setIfInBounds_toArray, List.set_cons_succ, List.set_cons_zero]
                refine wpAny_take (i := 6) (v := .bool true) rfl (by kernel_rfl) (by kernel_rfl) (by kernel_rfl) (fun _ _ _ h => h) (Or.inl ⟨by kernel_rfl, fun W => by first | rfl | go_simp⟩) ?_
                simp only [Act.put, List.getElem_toArray, List.getElem_cons_succ, List.getElem_cons_zero, List.setIfInBounds_toArray, List.set_cons_succ, List.set_cons_zero]
                refine wpAny_take (i := 7) (v := .int .i64 (k : Int)) rfl (by kernel_rfl) (by kernel_rfl) (by kernel_rfl) (fun _ _ _ h => h) (Or.inl ⟨by kernel_rfl, fun W => by first | rfl | go_simp⟩) ?_
                simp only [Act.put, List.getElem_toArray, List.getElem_cons_succ, List.getElem_cons_zero, List.setIfInBounds_toArray, List.set_cons_succ, List.set_cons_zero]
                refine wpAny_take (i := 8) (v := .int .i64 (j : Int)) rfl (by kernel_rfl) (by kernel_rfl) (by kernel_rfl) (fun _ _ _ h => h) (Or.inl ⟨by kernel_rfl, fun W => by first | rfl | go_simp⟩) ?_
                simp only [Act.put, List.getElem_toArray, List.getElem_cons_succ, List.getElem_cons_zero, List.setIfInBounds_toArray, List.set_cons_succ, List.set_cons_zero]
                refine wpAny_take (i := 9) (v := .int .i64 (r : Int)) rfl (by kernel_rfl) (by kernel_rfl) (by kernel_rfl) (fun _ _ _ h => h) (Or.inl ⟨by kernel_rfl, fun W => by first | rfl | go_simp⟩) ?_
                simp only [Act.put, List.getElem_toArray, List.getElem_cons_succ, List.getElem_cons_zero, List.setIfInBounds_toArray, List.set_cons_succ, List.set_cons_zero]
                refine wpAny_take (i := 10) (v := .slice A2 nb c2) rfl (by kernel_rfl) (by kernel_rfl) (by kernel_rfl) (fun _ _ _ h => h) (Or.inl ⟨by kernel_rfl, fun W => by first | rfl | go_simp⟩) ?_
                simp only [Act.put, List.getElem_toArray, List.getElem_cons_succ, List.getElem_cons_zero, List.setIfInBounds_toArray, List.set_cons_succ, List.set_cons_zero]
                refine wpAny_take (i := 11) (v := .int .i64 (nb : Int)) rfl (by kernel_rfl) (by kernel_rfl) (by kernel_rfl) (fun _ _ _ h => h) (Or.inl ⟨by kernel_rfl, fun W => by first | rfl | go_simp⟩) ?_
                simp only [Act.put, List.getElem_toArray, List.getElem_cons_succ, List.getElem_cons_zero, List.setIfInBounds_toArray, List.set_cons_succ, List.set_cons_zero]
                refine wpAny_take (i := 12) (v := .bool false) rfl (by kernel_rfl) (by kernel_rfl) (by kernel_rfl) (fun _ _ _ h => h) (Or.inl ⟨by kernel_rfl, fun W => by first | rfl | go_simp⟩) ?_
                simp only [Act.put, List.getElem_toArray, List.getElem_cons_succ, List.getElem_cons_zero, List.setIfInBounds_toArray, List.set_cons_succ, List.set_cons_zero]
                refine wpAny_take (i := 13) (v := .bool false) rfl (by kernel_rfl) (by kernel_rfl) (by kernel_rfl) (fun _ _ _ h => h) (Or.inl ⟨by kernel_rfl, fun W => by first | rfl | go_simp⟩) ?_
                simp only [Act.put, List.getElem_toArray, List.getElem_cons_succ, List.getElem_cons_zero, List.setIfInBounds_toArray, List.set_cons_succ, List.set_cons_zero]
                refine wpAny_take (i := 14) (v := .bool false) rfl (by kernel_rfl) (by kernel_rfl) (by kernel_rfl) (fun _ _ _ h => h) (Or.inl ⟨by kernel_rfl, fun W => by first | rfl | go_simp⟩) ?_
                simp only [Act.put, List.getElem_toArray, List.getElem_cons_succ, List.getElem_cons_zero, List.setIfInBounds_toArray, List.set_cons_succ, List.set_cons_zero]
                refine wpAny_take (i := 15) (v := undef) rfl (by kernel_rfl) (by kernel_rfl) (by kernel_rfl) (fun _ _ _ h => h) (Or.inr ⟨by kernel_rfl, rfl⟩) ?_
                simp only [Act.put, List.getElem_toArray, List.getElem_cons_succ, List.getElem_cons_zero, List.setIfInBounds_toArray, List.set_cons_succ, List.set_cons_zero]
                refine wpAny_take (i := 16) (v := undef) rfl (by kernel_rfl) (by kernel_rfl) (by kernel_rfl) (fun _ _ _ h => h) (Or.inr ⟨by kernel_rfl, rfl⟩) ?_
                simp only [Act.put, List.getElem_toArray, List.getElem_cons_succ, List.getElem_cons_zero, List.setIfInBounds_toArray, List.set_cons_succ, List.set_cons_zero]
                refine wpAny_take (i := 17) (v := undef) rfl (by kernel_rfl) (by kernel_rfl) (by kernel_rfl) (fun _ _ _ h => h) (Or.inr ⟨by kernel_rfl, rfl⟩) ?_
                simp only [Act.put, List.getElem_toArray, List.getElem_cons_succ, List.getElem_cons_zero, List.setIfInBounds_toArray, List.set_cons_succ, List.set_cons_zero]
                refine wpAny_take (i := 18) (v := undef) rfl (by kernel_rfl) (by kernel_rfl) (by kernel_rfl) (fun _ _ _ h => h) (Or.inr ⟨by kernel_rfl, rfl⟩) ?_
                simp only [Act.put, List.getElem_toArray, List.getElem_cons_succ, List.getElem_cons_zero, List.setIfInBounds_toArray, List.set_cons_succ, List.set_cons_zero]
                refine wpAny_take (i := 19) (v := undef) rfl (by kernel_rfl) (by kernel_rfl) (by kernel_rfl) (fun _ _ _ h => h) (Or.inr ⟨by kernel_rfl, rfl⟩) ?_
                simp only [Act.put, List.getElem_toArray, List.getElem_cons_succ, List.getElem_cons_zero, List.setIfInBounds_toArray, List.set_cons_succ, List.set_cons_zero]
                refine wpAny_take (i := 20) (v := undef) rfl (by kernel_rfl) (by kernel_rfl) (by kernel_rfl) (fun _ _ _ h => h) (Or.inr ⟨by kernel_rfl, rfl⟩) ?_
                simp only [Act.put, List.getElem_toArray, List.getElem_cons_succ, List.getElem_cons_zero, List.setIfInBounds_toArray, List.set_cons_succ, List.set_cons_zero]
                refine wpAny_take (i := 21) (v := undef) rfl (by kernel_rfl) (by kernel_rfl) (by kernel_rfl) (fun _ _ _ h => h) (Or.inr ⟨by kernel_rfl, rfl⟩) ?_
                simp only [Act.put, List.getElem_toArray, List.getElem_cons_succ, List.getElem_cons_zero, List.setIfInBounds_toArray, List.set_cons_succ, List.set_cons_zero]
                refine wpAny_take (i := 22) (v := undef) rfl (by kernel_rfl) (by kernel_rfl) (by kernel_rfl) (fun _ _ _ h => h) (Or.inr ⟨by kernel_rfl, rfl⟩) ?_
                simp only [Act.put, List.getElem_toArray, List.getElem_cons_succ, List.getElem_cons_zero, List.setIfInBounds_toArray, List.set_cons_succ, List.set_cons_zero]
                refine wpAny_take (i := 23) (v := undef) rfl (by kernel_rfl) (by kernel_rfl) (by kernel_rfl) (fun _ _ _ h => h) (Or.inr ⟨by kernel_rfl, rfl⟩) ?_
                simp only [Act.put, List.getElem_toArray, List.getElem_cons_succ, List.getElem_cons_zero, List.setIfInBounds_toArray, List.set_cons_succ, List.set_cons_zero]
                refine wpAny_take (i := 24) (v := undef) rfl (by kernel_rfl) (by kernel_rfl) (by kernel_rfl) (fun _ _ _ h => h) (Or.inr ⟨by kernel_rfl, rfl⟩) ?_
                simp only [Act.put, List.getElem_toArray, List.getElem_cons_succ, List.getElem_cons_zero, List.setIfInBounds_toArray, List.set_cons_succ, List.set_cons_zero]
                refine wpAny_take (i := 25) (v := undef) rfl (by kernel_rfl) (by kernel_rfl) (by kernel_rfl) (fun _ _ _ h => h) (Or.inr ⟨by kernel_rfl, rfl⟩) ?_
                simp only [Act.put, List.getElem_toArray, List.getElem_cons_succ, List.getElem_cons_zero, List.setIfInBounds_toArray, List.set_cons_succ, List.set_cons_zero]
                refine wpAny_take (i := 26) (v := undef) rfl (by kernel_rfl) (by kernel_rfl) (by kernel_rfl) (fun _ _ _ h => h) (Or.inr ⟨by kernel_rfl, rfl⟩) ?_
                simp only [Act.put, List.getElem_toArray, List.getElem_cons_succ, List.getElem_cons_zero, List.setIfInBounds_toArray, List.set_cons_succ, List.set_cons_zero]
                refine wpAny_take (i := 27) (v := undef) rfl (by kernel_rfl) (by kernel_rfl) (by kernel_rfl) (fun _ _ _ h => h) (Or.inr ⟨by kernel_rfl, rfl⟩) ?_
                simp only [Act.put, List.getElem_toArray, List.getElem_cons_succ, List.getElem_cons_zero, List.setIfInBounds_toArray, List.set_cons_succ, List.set_cons_zero]
                refine wpAny_take (i := 28) (v := undef) rfl (by kernel_rfl) (by kernel_rfl) (by kernel_rfl) (fun _ _ _ h => h) (Or.inr ⟨by kernel_rfl, rfl⟩) ?_
                simp only [Act.put, List.getElem_toArray, List.getElem_cons_succ, List.getElem_cons_zero, List.setIfInBounds_toArray, List.set_cons_succ, List.set_cons_zero]
                refine wpAny_take (i := 29) (v := undef) rfl (by kernel_rfl) (by kernel_rfl) (by kernel_rfl) (fun _ _ _ h => h) (Or.inr ⟨by kernel_rfl, rfl⟩) ?_
                simp only [Act.put, List.getElem_toArray, List.getElem_cons_succ, List.getElem_cons_zero, List.setIfInBounds_toArray, List.set_cons_succ, List.set_cons_zero]
                refine wpAny_take (i := 30) (v := .bool false) rfl (by kernel_rfl) (by kernel_rfl) (by kernel_rfl) (fun _ _ _ h => h) (Or.inl ⟨by kernel_rfl, fun W => by first | rfl | go_simp⟩) ?_
                simp only [Act.put, List.getElem_toArray, List.getElem_cons_succ, List.getElem_cons_zero, List.setIfInBounds_toArray, List.set_cons_succ, List.set_cons_zero]
                refine wpAny_done (by kernel_rfl) ?_ _
                try simp only [List.getElem_toArray, List.getElem_cons_succ, List.getElem_cons_zero, List.setIfInBounds_toArray, List.set_cons_succ, List.set_cons_zero]
                replace hB := hB.drew
                have e2 := E2.out i k
                rw [HR.out] at e2
                have cl : j ≤ 60 := by omega
                clear HR HC
                by_cases hmx : (F2 i k : Nat) < j
                · have e3 : F2 i (k + 1) = j := by rw [e2]; omega
                  have hmx2 : ((F2 i k : Nat) : Int) < (j : Int) := by omega
                  have HE := Lib.hid e3
                  clear e2 e3
                  obtain ⟨m, hm⟩ : ∃ m, F2 i k = m := ⟨_, rfl⟩
                  rw [hm] at hmx hmx2 f2 ⊢
                  clear hm
                  go_wp2_with fail
                  go_roundw
                  case rel => exact ⟨k + 1, by omega, by go_num, by rw [HE.out], ⟨_, rfl⟩, hB⟩
                  case measure => simp [intOf]; omega
                · have e3 : F2 i (k + 1) = F2 i k := by rw [e2]; omega
                  replace hmx : j ≤ F2 i k := by omega
                  obtain ⟨m, hm⟩ : ∃ m, F2 i k = m := ⟨_, rfl⟩
                  rw [hm] at hmx f2 e3 ⊢
                  have HE := Lib.hid e3
                  clear e2 e3 hm
                  go_wp2_with fail
                  go_roundw
                  case rel => exact ⟨k + 1, by omega, by go_num, by rw [HE.out], ⟨_, rfl⟩, hB⟩
                  case measure => simp [intOf]; omega
            · have HR := Lib.hid (SP.out i k j (by omega) HC.out)
              have hpa' : na ≤ p := by omega
              clear hpa
              go_wp2_with fail
              refine wp_region_any (by kernel_rfl) ?_
              change wpAny _ _ _ _ _ _ _ (World.drew _)
              refine wpAny_take (i := 0) (v := .int .i64 (i : Int)) rfl (by kernel_rfl) (by kernel_rfl) (by kernel_rfl) (fun _ _ _ h => h) (Or.inl ⟨by kernel_rfl, fun W => by first | rfl | go_simp⟩) ?_
              simp only [Act.put, List.getElem_toArray, List.getElem_cons_succ, List.getElem_cons_zero, List.setIfInBounds_toArray, List.set_cons_succ, List.set_cons_zero]
              refine wpAny_take (i := 1) (v := .int .i64 (j : Int)) rfl (by kernel_rfl) (by kernel_rfl) (by kernel_rfl) (fun _ _ _ h => h) (Or.inl ⟨by kernel_rfl, fun W => by first | rfl | go_simp⟩) ?_
              simp only [Act.put, List.getElem_toArray, List.getElem_cons_succ, List.getElem_cons_zero, List.setIfInBounds_toArray, List.set_cons_succ, List.set_cons_zero]
              refine wpAny_take (i := 2) (v := .int .i64 (p : Int)) rfl (by kernel_rfl) (by kernel_rfl) (by kernel_rfl) (fun _ _ _ h => h) (Or.inl ⟨by kernel_rfl, fun W => by first | rfl | go_simp⟩) ?_
              simp only [Act.put, List.getElem_toArray, List.getElem_cons_succ, List.getElem_cons_zero, List.setIfInBounds_toArray, List.set_cons_succ, List.set_cons_zero]
              refine wpAny_take (i := 3) (v := .slice A1 na c1) rfl (by kernel_rfl) (by kernel_rfl) (by kernel_rfl) (fun _ _ _ h => h) (Or.inl ⟨by kernel_rfl, fun W => by first | rfl | go_simp⟩) ?_
              simp only [Act.put, List.getElem_toArray, List.getElem_cons_succ, List.getElem_cons_zero, List.setIfInBounds_toArray, List.set_cons_succ, List.set_cons_zero]
              refine wpAny_take (i := 4) (v := .int .i64 (na : Int)) rfl (by kernel_rfl) (by kernel_rfl) (by kernel_rfl) (fun _ _ _ h => h) (Or.inl ⟨by kernel_rfl, fun W => by first | rfl | go_simp⟩) ?_
              simp only [Act.put, List.getElem_toArray, List.getElem_cons_succ, List.getElem_cons_zero, List.setIfInBounds_toArray, List.set_cons_succ, List.set_cons_zero]
              refine wpAny_take (i := 5) (v := .bool false) rfl (by kernel_rfl) (by kernel_rfl) (by kernel_rfl) (fun _ _ _ h => h) (Or.inl ⟨by kernel_rfl, fun W => by first | rfl | go_simp⟩) ?_
              simp only [Act.put, List.getElem_toArray, List.getElem_cons_succ, List.getElem_cons_zero, List.setIfInBounds_toArray, List.set_cons_succ, List.set_cons_zero]
              refine wpAny_take (i := 6) (v := .bool false) rfl (by kernel_rfl) (by kernel_rfl) (by kernel_rfl) (fun _ _ _ h => h) (Or.inl ⟨by kernel_rfl, fun W => by first | rfl | go_simp⟩) ?_
              simp only [Act.put, List.getElem_toArray, List.getElem_cons_succ, List.getElem_cons_zero, List.setIfInBounds_toArray, List.set_cons_succ, List.set_cons_zero]
              refine wpAny_take (i := 7) (v := undef) rfl (by kernel_rfl) (by kernel_rfl) (by kernel_rfl) (fun _ _ _ h => h) (Or.inr ⟨by kernel_rfl, rfl⟩) ?_
              simp only [Act.put, List.getElem_toArray, List.getElem_cons_succ, List.getElem_cons_zero, List.setIfInBounds_toArray, List.set_cons_succ, List.set_cons_zero]
              refine wpAny_take (i := 8) (v := undef) rfl (by kernel_rfl) (by kernel_rfl) (by kernel_rfl) (fun _ _ _ h => h) (Or.inr ⟨by kernel_rfl, rfl⟩) ?_
              simp only [Act.put, List.getElem_toArray, List.getElem_cons_succ, List.getElem_cons_zero, List.setIfInBounds_toArray, List.set_cons_succ, List.set_cons_zero]
              refine wpAny_take (i := 9) (v := undef) rfl (by kernel_rfl) (by kernel_rfl) (by kernel_rfl) (fun _ _ _ h => h) (Or.inr ⟨by kernel_rfl, rfl⟩) ?_
              simp only [Act.put, List.getElem_toArray, List.getElem_cons_succ, List.getElem_cons_zero, List.setIfInBounds_toArray, List.set_cons_succ, List.set_cons_zero]
              refine wpAny_take (i := 10) (v := undef) rfl (by kernel_rfl) (by kernel_rfl) (by kernel_rfl) (fun _ _ _ h => h) (Or.inr ⟨by kernel_rfl, rfl⟩) ?_
              simp only [Act.put, List.getElem_toArray, List.getElem_cons_succ, List.getElem_cons_zero, List.setIfInBounds_toArray, List.set_cons_succ, List.set_cons_zero]
              refine wpAny_take (i := 11) (v := undef) rfl (by kernel_rfl) (by kernel_rfl) (by kernel_rfl) (fun _ _ _ h => h) (Or.inr ⟨by kernel_rfl, rfl⟩) ?_
              simp only [Act.put, List.getElem_toArray, List.getElem_cons_succ, List.getElem_cons_zero, List.setIfInBounds_toArray, List.set_cons_succ, List.set_cons_zero]
              refine wpAny_take (i := 12) (v := undef) rfl (by kernel_rfl) (by kernel_rfl) (by kernel_rfl) (fun _ _ _ h => h) (Or.inr ⟨by kernel_rfl, rfl⟩) ?_
              simp only [Act.put, List.getElem_toArray, List.getElem_cons_succ, List.getElem_cons_zero, List.setIfInBounds_toArray, List.set_cons_succ, List.set_cons_zero]
              refine wpAny_take (i := 13) (v := .bool false) rfl (by kernel_rfl) (by kernel_rfl) (by kernel_rfl) (fun _ _ _ h => h) (Or.inl ⟨by kernel_rfl, fun W => by first | rfl | go_simp⟩) ?_
              simp only [Act.put, List.getElem_toArray, List.getElem_cons_succ, List.getElem_cons_zero, List.setIfInBounds_toArray, List.set_cons_succ, List.set_cons_zero]
              refine wpAny_take (i := 14) (v := .bool false) rfl (by kernel_rfl) (by kernel_rfl) (by kernel_rfl) (fun _ _ _ h => h) (Or.inl ⟨by kernel_rfl, fun W => by first | rfl | go_simp⟩) ?_
              simp only [Act.put, List.getElem_toArray, List.getElem_cons_succ, List.getElem_cons_zero, List.setIfInBounds_toArray, List.set_cons_succ, List.set_cons_zero]
              refine wpAny_take (i := 15) (v := undef) rfl (by kernel_rfl) (by kernel_rfl) (by kernel_rfl) (fun _ _ _ h => h) (Or.inr ⟨by kernel_rfl, rfl⟩) ?_
              simp only [Act.put, List.getElem_toArray, List.getElem_cons_succ, List.getElem_cons_zero, List.setIfInBounds_toArray, List.set_cons_succ, List.set_cons_zero]
              refine wpAny_take (i := 16) (v := undef) rfl (by kernel_rfl) (by kernel_rfl) (by kernel_rfl) (fun _ _ _ h => h) (Or.inr ⟨by kernel_rfl, rfl⟩) ?_
              simp only [Act.put, List.getElem_toArray, List.getElem_cons_succ, List.getElem_cons_zero, List.setIfInBounds_toArray, List.set_cons_succ, List.set_cons_zero]
              refine wpAny_take (i := 17) (v := undef) rfl (by kernel_rfl) (by kernel_rfl) (by kernel_rfl) (fun _ _ _ h => h) (Or.inr ⟨by kernel_rfl, rfl⟩) ?_
              simp only [Act.put, List.getElem_toArray, List.getElem_cons_succ, List.getElem_cons_zero, List.setIfInBounds_toArray, List.set_cons_succ, List.set_cons_zero]
              refine wpAny_take (i := 18) (v := undef) rfl (by kernel_rfl) (by kernel_rfl) (by kernel_rfl) (fun _ _ _ h => h) (Or.inr ⟨by kernel_rfl, rfl⟩) ?_
              simp only [Act.put, List.getElem_toArray, List.getElem_cons_succ, List.getElem_cons_zero, List.setIfInBounds_toArray, List.set_cons_succ, List.set_cons_zero]
              refine wpAny_take (i := 19) (v := undef) rfl (by kernel_rfl) (by kernel_rfl) (by kernel_rfl) (fun _ _ _ h => h) (Or.inr ⟨by kernel_rfl, rfl⟩) ?_
              simp only [Act.put, List.getElem_toArray, List.getElem_cons_succ, List.getElem_cons_zero, List.setIfInBounds_toArray, List.set_cons_succ, List.set_cons_zero]
              refine wpAny_take (i := 20) (v := undef) rfl (by kernel_rfl) (by kernel_rfl) (by kernel_rfl) (fun _ _ _ h => h) (Or.inr ⟨by kernel_rfl, rfl⟩) ?_
              simp only [Act.put, List.getElem_toArray, List.getElem_cons_succ, List.getElem_cons_zero, List.setIfInBounds_toArray, List.set_cons_succ, List.set_cons_zero]
              refine wpAny_take (i := 21) (v := undef) rfl (by kernel_rfl) (by kernel_rfl) (by kernel_rfl) (fun _ _ _ h => h) (Or.inr ⟨by kernel_rfl, rfl⟩) ?_
              simp only [Act.put, List.getElem_toArray, List.getElem_cons_succ, List.getElem_cons_zero, List.setIfInBounds_toArray, List.set_cons_succ, List.set_cons_zero]
              refine wpAny_take (i := 22) (v := undef) rfl (by kernel_rfl) (by kernel_rfl) (by kernel_rfl) (fun _ _ _ h => h) (Or.inr ⟨by kernel_rfl, rfl⟩) ?_
              simp only [Act.put, List.getElem_toArray, List.getElem_cons_succ, List.getElem_cons_zero, List.setIfInBounds_toArray, List.set_cons_succ, List.set_cons_zero]
              refine wpAny_take (i := 23) (v := undef) rfl (by kernel_rfl) (by kernel_rfl) (by kernel_rfl) (fun _ _ _ h => h) (Or.inr ⟨by kernel_rfl, rfl⟩) ?_
              simp only [Act.put, List.getElem_toArray, List.getElem_cons_succ, List.getElem_cons_zero, List.setIfInBounds_toArray, List.set_cons_succ, List.set_cons_zero]
              refine wpAny_take (i := 24) (v := undef) rfl (by kernel_rfl) (by kernel_rfl) (by kernel_rfl) (fun _ _ _ h => h) (Or.inr ⟨by kernel_rfl, rfl⟩) ?_
              simp only [Act.put, List.getElem_toArray, List.getElem_cons_succ, List.getElem_cons_zero, List.setIfInBounds_toArray, List.set_cons_succ, List.set_cons_zero]
              refine wpAny_take (i := 25) (v := undef) rfl (by kernel_rfl) (by kernel_rfl) (by kernel_rfl) (fun _ _ _ h => h) (Or.inr ⟨by kernel_rfl, rfl⟩) ?_
              simp only [Act.put, List.getElem_toArray, List.getElem_cons_succ, List.getElem_cons_zero, List.setIfInBounds_toArray, List.set_cons_succ, List.set_cons_zero]
              refine wpAny_take (i := 26) (v := undef) rfl (by kernel_rfl) (by kernel_rfl) (by kernel_rfl) (fun _ _ _ h => h) (Or.inr ⟨by kernel_rfl, rfl⟩) ?_
              simp only [Act.put, List.getElem_toArray, List.getElem_cons_succ, List.getElem_cons_zero, List.setIfInBounds_toArray, List.set_cons_succ, List.set_cons_zero]
              refine wpAny_take (i := 27) (v := undef) rfl (by kernel_rfl) (by kernel_rfl) (by kernel_rfl) (fun _ _ _ h => h) (Or.inr ⟨by kernel_rfl, rfl⟩) ?_
              simp only [Act.put, List.getElem_toArray, List.getElem_cons_succ, List.getElem_cons_zero, List.setIfInBounds_toArray, List.set_cons_succ, List.set_cons_zero]
              refine wpAny_take (i := 28) (v := undef) rfl (by kernel_rfl) (by kernel_rfl) (by kernel_rfl) (fun _ _ _ h => h) (Or.inr ⟨by kernel_rfl, rfl⟩) ?_
              simp only [Act.put, List.getElem_toArray, List.getElem_cons_succ, List.getElem_cons_zero, List.setIfInBounds_toArray, List.set_cons_succ, List.set_cons_zero]
              refine wpAny_take (i := 29) (v := undef) rfl (by kernel_rfl) (by kernel_rfl) (by kernel_rfl) (fun _ _ _ h => h) (Or.inr ⟨by kernel_rfl, rfl⟩) ?_
              simp only [Act.put, List.getElem_toArray, List.getElem_cons_succ, List.getElem_cons_zero, List.setIfInBounds_toArray, List.set_cons_succ, List.set_cons_zero]
              refine wpAny_take (i := 30) (v := .bool false) rfl (by kernel_rfl) (by kernel_rfl) (by kernel_rfl) (fun _ _ _ h => h) (Or.inl ⟨by kernel_rfl, fun W => by first | rfl | go_simp⟩) ?_
              simp only [Act.put, List.getElem_toArray, List.getElem_cons_succ, List.getElem_cons_zero, List.setIfInBounds_toArray, List.set_cons_succ, List.set_cons_zero]
              refine wpAny_done (by kernel_rfl) ?_ _
              try simp only [List.getElem_toArray, List.getElem_cons_succ, List.getElem_cons_zero, List.setIfInBounds_toArray, List.set_cons_succ, List.set_cons_zero]
              replace hB := hB.drew
              have e2 := E2.out i k
              rw [HR.out] at e2
              have cl : j ≤ 60 := by omega
              clear HR HC
              by_cases hmx : (F2 i k : Nat) < j
              · have e3 : F2 i (k + 1) = j := by rw [e2]; omega
                have hmx2 : ((F2 i k : Nat) : Int) < (j : Int) := by omega
                have HE := Lib.hid e3
                clear e2 e3
                obtain ⟨m, hm⟩ : ∃ m, F2 i k = m := ⟨_, rfl⟩
                rw [hm] at hmx hmx2 f2 ⊢
                clear hm
                go_wp2_with fail
                go_roundw
                case rel => exact ⟨k + 1, by omega, by go_num, by rw [HE.out], ⟨_, rfl⟩, hB⟩
                case measure => simp [intOf]; omega
              · have e3 : F2 i (k + 1) = F2 i k := by rw [e2]; omega
                replace hmx : j ≤ F2 i k := by omega
                obtain ⟨m, hm⟩ : ∃ m, F2 i k = m := ⟨_, rfl⟩
                rw [hm] at hmx f2 e3 ⊢
                have HE := Lib.hid e3
                clear e2 e3 hm
                go_wp2_with fail
                go_roundw
                case rel => exact ⟨k + 1, by omega, by go_num, by rw [HE.out], ⟨_, rfl⟩, hB⟩
                case measure => simp [intOf]; omega
        · obtain rfl : k = nb := by omega
          go_wp2_with fail
          go_roundw
          case rel => exact ⟨i + 1, by omega, by go_num, by rw [E1.out], ⟨_, rfl⟩, hB⟩
          case measure => simp [intOf]; omega
    · obtain rfl : i = na := by omega
      go_wp2_with fail
      refine bodyPost_ret (v := .tuple #[.int .i64 (F1 i : Nat), .int .i64 z]) (by simp [results, Tryz.results107, go_sem]) rfl ⟨⟨z, rfl⟩, hB⟩
set_option maxRecDepth 100000 in
set_option maxHeartbeats 4000000 in
theorem i_SharedT {b1 b2 : Nat} {v1 v2 : Value} {a b : List (List UInt8)} (w : World) (h1 : OwnS w b1 v1 a) (h2 : OwnS w b2 v2 b) (pa : phB a = true) (pb : phB b = true) (hx : ∀ j, (a.getD j []).length ≤ 9223372036854775807) (hy : ∀ j, (b.getD j []).length ≤ 9223372036854775807) :
    Calls Tryz.prog 40 #[v1, v2] w fun e w' => e = .returned (.tuple #[.int .i64 (shN a b : Nat), .int .i64 0]) ∧ Below w.heap.size w w' := by
  have Q1 := Lib.hid (toBelowB (i_isPhrase w h1 hx) pa)
  have Q2 := Lib.hid (fun W (hW : Below w.heap.size w W) => toBelowB (i_isPhrase W (h2.below hW) hy) pb)
  obtain ⟨hl1, A1, c1, rfl, p1⟩ := h1.opened
  obtain ⟨hl2, A2, c2, rfl, p2⟩ := h2.opened
  have la := (ph_len pa).1
  have lb := (ph_len pb).1
  have P1 := Lib.hid p1
  have P2 := Lib.hid p2
  have MR := Lib.hid (fun i k j h1 h2 h3 h4 => cpl_more (a := a) (b := b) (i := i) (k := k) (j := j) h1 h2 h3 h4)
  have SP := Lib.hid (fun i k j h1 h2 => cpl_stop (a := a) (b := b) (i := i) (k := k) (j := j) h1 h2)
  have C0 := Lib.hid (fun i k => Lib.hid (show cpl (a.drop i) (b.drop k) = 0 + cpl (a.drop (i + 0)) (b.drop (k + 0)) by simp))
  have hF1 : ∃ F1 : Nat → Nat, F1 = sh1 a b := ⟨_, rfl⟩
  have hF2 : ∃ F2 : Nat → Nat → Nat, F2 = fun i k => sh2 a b i (sh1 a b i) k := ⟨_, rfl⟩
  obtain ⟨F1, hF1⟩ := hF1
  obtain ⟨F2, hF2⟩ := hF2
  have Z1 := Lib.hid (show F1 0 = 0 by rw [hF1]; rfl)
  have E1 := Lib.hid (fun i => show F1 (i + 1) = F2 i b.length by rw [hF1, hF2]; rfl)
  have Z2 := Lib.hid (fun i => show F2 i 0 = F1 i by rw [hF1, hF2]; rfl)
  have E2 := Lib.hid (fun i k => show F2 i (k + 1) = max (F2 i k) (cpl (a.drop i) (b.drop k)) by rw [hF2]; rfl)
  have BF1 := Lib.hid (fun i => show F1 i ≤ 60 by rw [hF1]; have := sh1_bd a b i; omega)
  have BF2 := Lib.hid (fun i k => show F2 i k ≤ 60 by rw [hF2]; have := sh2_bd a b i (sh1 a b i) k (sh1_bd a b i); dsimp only; omega)
  have hN : shN a b = F1 a.length := by rw [hF1]; rfl
  rw [hN]
  have CC := Lib.hid (fun k l (hk : k < a.length) (hl : l < b.length) => fun W => i_alike (a.getD k []) (b.getD l []) W (ph_wd pa k hk) (ph_wd pb l hl))
  clear h1 h2 pa pb p1 p2 hN hl1 hl2 hF1 hF2
  obtain ⟨na, hna⟩ : ∃ na, a.length = na := ⟨_, rfl⟩
  obtain ⟨nb, hnb⟩ : ∃ nb, b.length = nb := ⟨_, rfl⟩
  rw [hna] at P1 MR SP la CC Q1 ⊢
  rw [hnb] at P2 MR SP E1 lb CC Q2 ⊢
  clear hna hnb
  go_enter Tryz.func40, Tryz.ntmps40
  go_wp2_with fail
  refine Q1.out.mono ?_
  rintro e w1 ⟨rfl, L⟩
  go_wp2_with fail
  refine (Q2.out _ L).mono ?_
  rintro e w2 ⟨rfl, hb⟩
  replace L := below_step L hb
  clear hb Q1 Q2
  go_wp2_with fail
  go_loopw [6, 20] (fun mq iq wr => ∃ i : Nat, i ≤ na ∧ iq = .int .i64 i ∧ mq = .int .i64 (F1 i : Nat) ∧ Below w.heap.size w wr) (fun _ iq _ => na - (intOf iq).toNat)
  case atStart => exact ⟨0, by omega, rfl, by rw [Z1.out]; rfl, L⟩
  case round =>
    obtain ⟨i, hi, rfl, rfl, hB⟩ := hrel
    have f1 := BF1.out i
    by_cases hlt : i < na
    · go_wp2_with fail
      go_loopw [6, 25] (fun mq kq wy => ∃ k : Nat, k ≤ nb ∧ kq = .int .i64 k ∧ mq = .int .i64 (F2 i k : Nat) ∧ Below w.heap.size w wy) (fun _ kq _ => nb - (intOf kq).toNat)
      case atStart => exact ⟨0, by omega, rfl, by rw [Z2.out], hB⟩
      case round =>
        clear hB
        obtain ⟨k, hk, rfl, rfl, hB⟩ := hrel
        have f2 := BF2.out i k
        by_cases hlk : k < nb
        · go_wp2_with fail
          go_loopw [9] (fun jq wx => ∃ j : Nat, i + j ≤ na ∧ jq = .int .i64 j ∧ Hid (cpl (a.drop i) (b.drop k) = j + cpl (a.drop (i + j)) (b.drop (k + j))) ∧ Below w.heap.size w wx) (fun jq _ => na - (intOf jq).toNat)
          case atStart => exact ⟨0, by omega, rfl, C0.out i k, hB⟩
          case round =>
            clear hB
            obtain ⟨j, hj, rfl, HC, hB⟩ := hrel
            obtain ⟨p, hp⟩ : ∃ p, i + j = p := ⟨_, rfl⟩
            obtain ⟨r, hr⟩ : ∃ r, k + j = r := ⟨_, rfl⟩
            have hs1 : IntKind.i64.wrap ((i : Int) + (j : Int)) = (p : Int) := by rw [IntWalk.i64_in _ (by omega)]; omega
            have hs2 : IntKind.i64.wrap ((k : Int) + (j : Int)) = (r : Int) := by rw [IntWalk.i64_in _ (by omega)]; omega
            by_cases hpa : p < na
            · by_cases hrb : r < nb
              · obtain ⟨g1, rfl, -, hg1, hc1, -⟩ := P1.out (by omega)
                obtain ⟨g2, rfl, -, hg2, hc2, -⟩ := P2.out (by omega)
                have x1 := (hB.cell (p := ⟨g1, p, none⟩) hg1).trans (hc1 p hpa)
                have x2 := (hB.cell (p := ⟨g2, r, none⟩) hg2).trans (hc2 r hrb)
                replace hg1 := Nat.lt_of_lt_of_le hg1 hB.size
                replace hg2 := Nat.lt_of_lt_of_le hg2 hB.size
                clear hc1 hc2
                have mr := MR.out i k j (by omega) (by omega)
                have sp := SP.out i k j
                rw [hp, hr] at mr sp
                have cx := CC.out p r hpa hrb
                obtain ⟨x, hx⟩ : ∃ x, a.getD p [] = x := ⟨_, rfl⟩
                obtain ⟨y, hy⟩ : ∃ y, b.getD r [] = y := ⟨_, rfl⟩
                rw [hx] at x1 mr sp cx
                rw [hy] at x2 mr sp cx
                clear hx hy
                obtain ⟨al, hal⟩ : ∃ al, alB x y = al := ⟨_, rfl⟩
                rw [hal] at mr sp cx
                clear hal
                have CX := Lib.hid cx
                clear cx
                rcases Bool.eq_false_or_eq_true al with hab | hab
                · subst hab
                  have HR := Lib.hid (mr rfl (by have := HC.out; rw [hp, hr] at this; exact this))
                  clear mr sp
                  go_wp2_with fail
                  replace hB := hB.drew
                  replace x1 : wr.drew.cell? ⟨g1, p, none⟩ = some (.string ⟨x.toArray⟩) := x1
                  replace x2 : wr.drew.cell? ⟨g2, r, none⟩ = some (.string ⟨y.toArray⟩) := x2
                  replace hg1 : g1 < wr.drew.heap.size := hg1
                  replace hg2 : g2 < wr.drew.heap.size := hg2
                  refine wp_region_any (by kernel_rfl) ?_
                  change wpAny _ _ _ _ _ _ _ (World.drew _)
                  refine wpAny_take (i := 0) (v := .int .i64 (i : Int)) rfl (by kernel_rfl) (by kernel_rfl) (by kernel_rfl) (fun _ _ _ h => h) (Or.inl ⟨by kernel_rfl, fun W => by first | rfl | go_simp⟩) ?_
                  simp only [Act.put, List.getElem_toArray, List.getElem_cons_succ, List.getElem_cons_zero, List.setIfInBounds_toArray, List.set_cons_succ, List.set_cons_zero]
                  refine wpAny_take (i := 1) (v := .int .i64 (j : Int)) rfl (by kernel_rfl) (by kernel_rfl) (by kernel_rfl) (fun _ _ _ h => h) (Or.inl ⟨by kernel_rfl, fun W => by first | rfl | go_simp⟩) ?_
                  simp only [Act.put, List.getElem_toArray, List.getElem_cons_succ, List.getElem_cons_zero, List.setIfInBounds_toArray, List.set_cons_succ, List.set_cons_zero]
                  refine wpAny_take (i := 2) (v := .int .i64 (p : Int)) rfl (by kernel_rfl) (by kernel_rfl) (by kernel_rfl) (fun _ _ _ h => h) (Or.inl ⟨by kernel_rfl, fun W => by first | rfl | go_simp⟩) ?_
                  simp only [Act.put, List.getElem_toArray, List.getElem_cons_succ, List.getElem_cons_zero, List.setIfInBounds_toArray, List.set_cons_succ, List.set_cons_zero]
                  refine wpAny_take (i := 3) (v := .slice (some ⟨g1, 0, none⟩) na c1) rfl (by kernel_rfl) (by kernel_rfl) (by kernel_rfl) (fun _ _ _ h => h) (Or.inl ⟨by kernel_rfl, fun W => by first | rfl | go_simp⟩) ?_
                  simp only [Act.put, List.getElem_toArray, List.getElem_cons_succ, List.getElem_cons_zero, List.setIfInBounds_toArray, List.set_cons_succ, List.set_cons_zero]
                  refine wpAny_take (i := 4) (v := .int .i64 (na : Int)) rfl (by kernel_rfl) (by kernel_rfl) (by kernel_rfl) (fun _ _ _ h => h) (Or.inl ⟨by kernel_rfl, fun W => by first | rfl | go_simp⟩) ?_
                  simp only [Act.put, List.getElem_toArray, List.getElem_cons_succ, List.getElem_cons_zero, List.setIfInBounds_toArray, List.set_cons_succ, List.set_cons_zero]
                  refine wpAny_take (i := 5) (v := .bool true) rfl (by kernel_rfl) (by kernel_rfl) (by kernel_rfl) (fun _ _ _ h => h) (Or.inl ⟨by kernel_rfl, fun W => by first | rfl | go_simp⟩) ?_
                  simp only [Act.put, List.getElem_toArray, List.getElem_cons_succ, List.getElem_cons_zero, List.setIfInBounds_toArray, List.set_cons_succ, List.set_cons_zero]
                  refine wpAny_take (i := 6) (v := .bool true) rfl (by kernel_rfl) (by kernel_rfl) (by kernel_rfl) (fun _ _ _ h => h) (Or.inl ⟨by kernel_rfl, fun W => by first | rfl | go_simp⟩) ?_
                  simp only [Act.put, List.getElem_toArray, List.getElem_cons_succ, List.getElem_cons_zero, List.setIfInBounds_toArray, List.set_cons_succ, List.set_cons_zero]
                  refine wpAny_take (i := 7) (v := .int .i64 (k : Int)) rfl (by kernel_rfl) (by kernel_rfl) (by kernel_rfl) (fun _ _ _ h => h) (Or.inl ⟨by kernel_rfl, fun W => by first | rfl | go_simp⟩) ?_
                  simp only [Act.put, List.getElem_toArray, List.getElem_cons_succ, List.getElem_cons_zero, List.setIfInBounds_toArray, List.set_cons_succ, List.set_cons_zero]
                  refine wpAny_take (i := 8) (v := .int .i64 (j : Int)) rfl (by kernel_rfl) (by kernel_rfl) (by kernel_rfl) (fun _ _ _ h => h) (Or.inl ⟨by kernel_rfl, fun W => by first | rfl | go_simp⟩) ?_
                  simp only [Act.put, List.getElem_toArray, List.getElem_cons_succ, List.getElem_cons_zero, List.setIfInBounds_toArray, List.set_cons_succ, List.set_cons_zero]
                  refine wpAny_take (i := 9) (v := .int .i64 (r : Int)) rfl (by kernel_rfl) (by kernel_rfl) (by kernel_rfl) (fun _ _ _ h => h) (Or.inl ⟨by kernel_rfl, fun W => by first | rfl | go_simp⟩) ?_
                  simp only [Act.put, List.getElem_toArray, List.getElem_cons_succ, List.getElem_cons_zero, List.setIfInBounds_toArray, List.set_cons_succ, List.set_cons_zero]
                  refine wpAny_take (i := 10) (v := .slice (some ⟨g2, 0, none⟩) nb c2) rfl (by kernel_rfl) (by kernel_rfl) (by kernel_rfl) (fun _ _ _ h => h) (Or.inl ⟨by kernel_rfl, fun W => by first | rfl | go_simp⟩) ?_
                  simp only [Act.put, List.getElem_toArray, List.getElem_cons_succ, List.getElem_cons_zero, List.setIfInBounds_toArray, List.set_cons_succ, List.set_cons_zero]
                  refine wpAny_take (i := 11) (v := .int .i64 (nb : Int)) rfl (by kernel_rfl) (by kernel_rfl) (by kernel_rfl) (fun _ _ _ h => h) (Or.inl ⟨by kernel_rfl, fun W => by first | rfl | go_simp⟩) ?_
                  simp only [Act.put, List.getElem_toArray, List.getElem_cons_succ, List.getElem_cons_zero, List.setIfInBounds_toArray, List.set_cons_succ, List.set_cons_zero]
                  refine wpAny_take (i := 12) (v := .bool true) rfl (by kernel_rfl) (by kernel_rfl) (by kernel_rfl) (fun _ _ _ h => h) (Or.inl ⟨by kernel_rfl, fun W => by first | rfl | go_simp⟩) ?_
                  simp only [Act.put, List.getElem_toArray, List.getElem_cons_succ, List.getElem_cons_zero, List.setIfInBounds_toArray, List.set_cons_succ, List.set_cons_zero]
                  refine wpAny_take (i := 13) (v := .bool true) rfl (by kernel_rfl) (by kernel_rfl) (by kernel_rfl) (fun _ _ _ h => h) (Or.inl ⟨by kernel_rfl, fun W => by first | rfl | go_simp⟩) ?_
                  simp only [Act.put, List.getElem_toArray, List.getElem_cons_succ, List.getElem_cons_zero, List.setIfInBounds_toArray, List.set_cons_succ, List.set_cons_zero]
                  refine wpAny_take (i := 14) (v := .bool true) rfl (by kernel_rfl) (by kernel_rfl) (by kernel_rfl) (fun _ _ _ h => h) (Or.inl ⟨by kernel_rfl, fun W => by first | rfl | go_simp⟩) ?_
                  simp only [Act.put, List.getElem_toArray, List.getElem_cons_succ, List.getElem_cons_zero, List.setIfInBounds_toArray, List.set_cons_succ, List.set_cons_zero]
                  refine wpAny_take (i := 15) (v := .slice (some ⟨g1, 0, none⟩) na c1) rfl (by kernel_rfl) (by kernel_rfl) (by kernel_rfl) (fun _ _ _ h => h) (Or.inl ⟨by kernel_rfl, fun W => by first | rfl | go_simp⟩) ?_
                  simp only [Act.put, List.getElem_toArray, List.getElem_cons_succ, List.getElem_cons_zero, List.setIfInBounds_toArray, List.set_cons_succ, List.set_cons_zero]
                  refine wpAny_take (i := 16) (v := .int .i64 (i : Int)) rfl (by kernel_rfl) (by kernel_rfl) (by kernel_rfl) (fun _ _ _ h => h) (Or.inl ⟨by kernel_rfl, fun W => by first | rfl | go_simp⟩) ?_
                  simp only [Act.put, List.getElem_toArray, List.getElem_cons_succ, List.getElem_cons_zero, List.setIfInBounds_toArray, List.set_cons_succ, List.set_cons_zero]
                  refine wpAny_take (i := 17) (v := .int .i64 (j : Int)) rfl (by kernel_rfl) (by kernel_rfl) (by kernel_rfl) (fun _ _ _ h => h) (Or.inl ⟨by kernel_rfl, fun W => by first | rfl | go_simp⟩) ?_
                  simp only [Act.put, List.getElem_toArray, List.getElem_cons_succ, List.getElem_cons_zero, List.setIfInBounds_toArray, List.set_cons_succ, List.set_cons_zero]
                  refine wpAny_take (i := 18) (v := .int .i64 (p : Int)) rfl (by kernel_rfl) (by kernel_rfl) (by kernel_rfl) (fun _ _ _ h => h) (Or.inl ⟨by kernel_rfl, fun W => by first | rfl | go_simp⟩) ?_
                  simp only [Act.put, List.getElem_toArray, List.getElem_cons_succ, List.getElem_cons_zero, List.setIfInBounds_toArray, List.set_cons_succ, List.set_cons_zero]
                  refine wpAny_take (i := 19) (v := .pointer (some ⟨g1, p, none⟩)) rfl (by kernel_rfl) (by kernel_rfl) (by kernel_rfl) (fun _ _ _ h => h) (Or.inl ⟨by kernel_rfl, fun W => by first | rfl | go_simp⟩) ?_
                  simp only [Act.put, List.getElem_toArray, List.getElem_cons_succ, List.getElem_cons_zero, List.setIfInBounds_toArray, List.set_cons_succ, List.set_cons_zero]
                  refine wpAny_take (i := 21) (v := .slice (some ⟨g2, 0, none⟩) nb c2) rfl (by kernel_rfl) (by kernel_rfl) (by kernel_rfl) (fun _ _ _ h => h) (Or.inl ⟨by kernel_rfl, fun W => by first | rfl | go_simp⟩) ?_
                  simp only [Act.put, List.getElem_toArray, List.getElem_cons_succ, List.getElem_cons_zero, List.setIfInBounds_toArray, List.set_cons_succ, List.set_cons_zero]
                  refine wpAny_take (i := 22) (v := .int .i64 (k : Int)) rfl (by kernel_rfl) (by kernel_rfl) (by kernel_rfl) (fun _ _ _ h => h) (Or.inl ⟨by kernel_rfl, fun W => by first | rfl | go_simp⟩) ?_
                  simp only [Act.put, List.getElem_toArray, List.getElem_cons_succ, List.getElem_cons_zero, List.setIfInBounds_toArray, List.set_cons_succ, List.set_cons_zero]
                  refine wpAny_take (i := 23) (v := .int .i64 (j : Int)) rfl (by kernel_rfl) (by kernel_rfl) (by kernel_rfl) (fun _ _ _ h => h) (Or.inl ⟨by kernel_rfl, fun W => by first | rfl | go_simp⟩) ?_
                  simp only [Act.put, List.getElem_toArray, List.getElem_cons_succ, List.getElem_cons_zero, List.setIfInBounds_toArray, List.set_cons_succ, List.set_cons_zero]
                  refine wpAny_take (i := 24) (v := .int .i64 (r : Int)) rfl (by kernel_rfl) (by kernel_rfl) (by kernel_rfl) (fun _ _ _ h => h) (Or.inl ⟨by kernel_rfl, fun W => by first | rfl | go_simp⟩) ?_
                  simp only [Act.put, List.getElem_toArray, List.getElem_cons_succ, List.getElem_cons_zero, List.setIfInBounds_toArray, List.set_cons_succ, List.set_cons_zero]
                  refine wpAny_take (i := 25) (v := .pointer (some ⟨g2, r, none⟩)) rfl (by kernel_rfl) (by kernel_rfl) (by kernel_rfl) (fun _ _ _ h => h) (Or.inl ⟨by kernel_rfl, fun W => by first | rfl | go_simp⟩) ?_
                  simp only [Act.put, List.getElem_toArray, List.getElem_cons_succ, List.getElem_cons_zero, List.setIfInBounds_toArray, List.set_cons_succ, List.set_cons_zero]
                  refine wpAny_ready (rs := [20, 26]) (by kernel_rfl) (by simp) ?_
                  refine AllReady.cons rfl (fun K hK => ?_) (AllReady.cons rfl (fun K hK => ?_) AllReady.nil)
                  · go_simp
                    refine hK _ _ ?_
                    clear hK K
                    refine wpAny_ready (rs := [26]) (by kernel_rfl) (by simp) ?_
                    refine AllReady.cons rfl (fun K hK => ?_) AllReady.nil
                    go_simp
                    refine hK _ _ ?_
                    clear hK K
                    refine wpAny_ready (rs := [27]) (by kernel_rfl) (by simp) ?_
                    refine AllReady.cons rfl (fun K hK => ?_) AllReady.nil
                    go_simp
                    go_at_call 106
                    refine (CX.out _).mono ?_
                    rintro e w3 ⟨rfl, hb3⟩
                    replace x1 := (hb3.cell (p := ⟨g1, p, none⟩) hg1).trans x1
                    replace x2 := (hb3.cell (p := ⟨g2, r, none⟩) hg2).trans x2
                    replace hB := hB.trans (hb3.mono hB.size)
                    replace hg1 := Nat.lt_of_lt_of_le hg1 hb3.size
                    replace hg2 := Nat.lt_of_lt_of_le hg2 hb3.size
                    clear hb3
                    refine hK _ _ ?_
                    clear hK K
                    refine wpAny_take (i := 28) (v := .bool true) rfl (by kernel_rfl) (by kernel_rfl) (by kernel_rfl) (fun _ _ _ h => h) (Or.inl ⟨by kernel_rfl, fun W => by first | rfl | go_simp⟩) ?_
                    simp only [Act.put, List.getElem_toArray, List.getElem_cons_succ, List.getElem_cons_zero, List.setIfInBounds_toArray, List.set_cons_succ, List.set_cons_zero]
                    refine wpAny_done (by kernel_rfl) ?_ _
                    try simp only [List.getElem_toArray, List.getElem_cons_succ, List.getElem_cons_zero, List.setIfInBounds_toArray, List.set_cons_succ, List.set_cons_zero]
                    go_wp2_with fail
                    go_roundw
                    case rel => exact ⟨j + 1, by omega, by go_num, HR, hB⟩
                    case measure => simp [intOf]; omega
                  · go_simp
                    refine hK _ _ ?_
                    clear hK K
                    refine wpAny_ready (rs := [20]) (by kernel_rfl) (by simp) ?_
                    refine AllReady.cons rfl (fun K hK => ?_) AllReady.nil
                    go_simp
                    refine hK _ _ ?_
                    clear hK K
                    refine wpAny_ready (rs := [27]) (by kernel_rfl) (by simp) ?_
                    refine AllReady.cons rfl (fun K hK => ?_) AllReady.nil
                    go_simp
                    go_at_call 106
                    refine (CX.out _).mono ?_
                    rintro e w3 ⟨rfl, hb3⟩
                    replace x1 := (hb3.cell (p := ⟨g1, p, none⟩) hg1).trans x1
                    replace x2 := (hb3.cell (p := ⟨g2, r, none⟩) hg2).trans x2
                    replace hB := hB.trans (hb3.mono hB.size)
                    replace hg1 := Nat.lt_of_lt_of_le hg1 hb3.size
                    replace hg2 := Nat.lt_of_lt_of_le hg2 hb3.size
                    clear hb3
                    refine hK _ _ ?_
                    clear hK K
                    refine wpAny_take (i := 28) (v := .bool true) rfl (by kernel_rfl) (by kernel_rfl) (by kernel_rfl) (fun _ _ _ h => h) (Or.inl ⟨by kernel_rfl, fun W => by first | rfl | go_simp⟩) ?_
                    simp only [Act.put, List.getElem_toArray, List.getElem_cons_succ, List.getElem_cons_zero, List.setIfInBounds_toArray, List.set_cons_succ, List.set_cons_zero]
                    refine wpAny_done (by kernel_rfl) ?_ _
                    try simp only [List.getElem_toArray, List.getElem_cons_succ, List.getElem_cons_zero, List.setIfInBounds_toArray, List.set_cons_succ, List.set_cons_zero]
                    go_wp2_with fail
                    go_roundw
                    case rel => exact ⟨j + 1, by omega, by go_num, HR, hB⟩
                    case measure => simp [intOf]; omega
                · subst hab
                  have HR := Lib.hid (sp (fun h => absurd h.2.2 (by decide)) (by have := HC.out; rw [hp, hr] at this; exact this))
                  clear mr sp
                  go_wp2_with fail
                  replace hB := hB.drew
                  replace x1 : wr.drew.cell? ⟨g1, p, none⟩ = some (.string ⟨x.toArray⟩) := x1
                  replace x2 : wr.drew.cell? ⟨g2, r, none⟩ = some (.string ⟨y.toArray⟩) := x2
                  replace hg1 : g1 < wr.drew.heap.size := hg1
                  replace hg2 : g2 < wr.drew.heap.size := hg2
                  refine wp_region_any (by kernel_rfl) ?_
                  change wpAny _ _ _ _ _ _ _ (World.drew _)
                  refine wpAny_take (i := 0) (v := .int .i64 (i : Int)) rfl (by kernel_rfl) (by kernel_rfl) (by kernel_rfl) (fun _ _ _ h => h) (Or.inl ⟨by kernel_rfl, fun W => by first | rfl | go_simp⟩) ?_
                  simp only [Act.put, List.getElem_toArray, List.getElem_cons_succ, List.getElem_cons_zero, List.setIfInBounds_toArray, List.set_cons_succ, List.set_cons_zero]
                  refine wpAny_take (i := 1) (v := .int .i64 (j : Int)) rfl (by kernel_rfl) (by kernel_rfl) (by kernel_rfl) (fun _ _ _ h => h) (Or.inl ⟨by kernel_rfl, fun W => by first | rfl | go_simp⟩) ?_
                  simp only [Act.put, List.getElem_toArray, List.getElem_cons_succ, List.getElem_cons_zero, List.setIfInBounds_toArray, List.set_cons_succ, List.set_cons_zero]
                  refine wpAny_take (i := 2) (v := .int .i64 (p : Int)) rfl (by kernel_rfl) (by kernel_rfl) (by kernel_rfl) (fun _ _ _ h => h) (Or.inl ⟨by kernel_rfl, fun W => by first | rfl | go_simp⟩) ?_
                  simp only [Act.put, List.getElem_toArray, List.getElem_cons_succ, List.getElem_cons_zero, List.setIfInBounds_toArray, List.set_cons_succ, List.set_cons_zero]
                  refine wpAny_take (i := 3) (v := .slice (some ⟨g1, 0, none⟩) na c1) rfl (by kernel_rfl) (by kernel_rfl) (by kernel_rfl) (fun _ _ _ h => h) (Or.inl ⟨by kernel_rfl, fun W => by first | rfl | go_simp⟩) ?_
                  simp only [Act.put, List.getElem_toArray, List.getElem_cons_succ, List.getElem_cons_zero, List.setIfInBounds_toArray, List.set_cons_succ, List.set_cons_zero]
                  refine wpAny_take (i := 4) (v := .int .i64 (na : Int)) rfl (by kernel_rfl) (by kernel_rfl) (by kernel_rfl) (fun _ _ _ h => h) (Or.inl ⟨by kernel_rfl, fun W => by first | rfl | go_simp⟩) ?_
                  simp only [Act.put, List.getElem_toArray, List.getElem_cons_succ, List.getElem_cons_zero, List.setIfInBounds_toArray, List.set_cons_succ, List.set_cons_zero]
                  refine wpAny_take (i := 5) (v := .bool true) rfl (by kernel_rfl) (by kernel_rfl) (by kernel_rfl) (fun _ _ _ h => h) (Or.inl ⟨by kernel_rfl, fun W => by first | rfl | go_simp⟩) ?_
                  simp only [Act.put, List.getElem_toArray, List.getElem_cons_succ, List.getElem_cons_zero, List.setIfInBounds_toArray, List.set_cons_succ, List.set_cons_zero]
                  refine wpAny_take (i := 6) (v := .bool true) rfl (by kernel_rfl) (by kernel_rfl) (by kernel_rfl) (fun _ _ _ h => h) (Or.inl ⟨by kernel_rfl, fun W => by first | rfl | go_simp⟩) ?_
                  simp only [Act.put, List.getElem_toArray, List.getElem_cons_succ, List.getElem_cons_zero, List.setIfInBounds_toArray, List.set_cons_succ, List.set_cons_zero]
                  refine wpAny_take (i := 7) (v := .int .i64 (k : Int)) rfl (by kernel_rfl) (by kernel_rfl) (by kernel_rfl) (fun _ _ _ h => h) (Or.inl ⟨by kernel_rfl, fun W => by first | rfl | go_simp⟩) ?_
                  simp only [Act.put, List.getElem_toArray, List.getElem_cons_succ, List.getElem_cons_zero, List.setIfInBounds_toArray, List.set_cons_succ, List.set_cons_zero]
                  refine wpAny_take (i := 8) (v := .int .i64 (j : Int)) rfl (by kernel_rfl) (by kernel_rfl) (by kernel_rfl) (fun _ _ _ h => h) (Or.inl ⟨by kernel_rfl, fun W => by first | rfl | go_simp⟩) ?_
                  simp only [Act.put, List.getElem_toArray, List.getElem_cons_succ, List.getElem_cons_zero, List.setIfInBounds_toArray, List.set_cons_succ, List.set_cons_zero]
                  refine wpAny_take (i := 9) (v := .int .i64 (r : Int)) rfl (by kernel_rfl) (by kernel_rfl) (by kernel_rfl) (fun _ _ _ h => h) (Or.inl ⟨by kernel_rfl, fun W => by first | rfl | go_simp⟩) ?_
                  simp only [Act.put, List.getElem_toArray, List.getElem_cons_succ, List.getElem_cons_zero, List.setIfInBounds_toArray, List.set_cons_succ, List.set_cons_zero]
                  refine wpAny_take (i := 10) (v := .slice (some ⟨g2, 0, none⟩) nb c2) rfl (by kernel_rfl) (by kernel_rfl) (by kernel_rfl) (fun _ _ _ h => h) (Or.inl ⟨by kernel_rfl, fun W => by first | rfl | go_simp⟩) ?_
                  simp only [Act.put, List.getElem_toArray, List.getElem_cons_succ, List.getElem_cons_zero, List.setIfInBounds_toArray, List.set_cons_succ, List.set_cons_zero]
                  refine wpAny_take (i := 11) (v := .int .i64 (nb : Int)) rfl (by kernel_rfl) (by kernel_rfl) (by kernel_rfl) (fun _ _ _ h => h) (Or.inl ⟨by kernel_rfl, fun W => by first | rfl | go_simp⟩) ?_
                  simp only [Act.put, List.getElem_toArray, List.getElem_cons_succ, List.getElem_cons_zero, List.setIfInBounds_toArray, List.set_cons_succ, List.set_cons_zero]
                  refine wpAny_take (i := 12) (v := .bool true) rfl (by kernel_rfl) (by kernel_rfl) (by kernel_rfl) (fun _ _ _ h => h) (Or.inl ⟨by kernel_rfl, fun W => by first | rfl | go_simp⟩) ?_
                  simp only [Act.put, List.getElem_toArray, List.getElem_cons_succ, List.getElem_cons_zero, List.setIfInBounds_toArray, List.set_cons_succ, List.set_cons_zero]
                  refine wpAny_take (i := 13) (v := .bool true) rfl (by kernel_rfl) (by kernel_rfl) (by kernel_rfl) (fun _ _ _ h => h) (Or.inl ⟨by kernel_rfl, fun W => by first | rfl | go_simp⟩) ?_
                  simp only [Act.put, List.getElem_toArray, List.getElem_cons_succ, List.getElem_cons_zero, List.setIfInBounds_toArray, List.set_cons_succ, List.set_cons_zero]
                  refine wpAny_take (i := 14) (v := .bool true) rfl (by kernel_rfl) (by kernel_rfl) (by kernel_rfl) (fun _ _ _ h => h) (Or.inl ⟨by kernel_rfl, fun W => by first | rfl | go_simp⟩) ?_
                  simp only [Act.put, List.getElem_toArray, List.getElem_cons_succ, List.getElem_cons_zero, List.setIfInBounds_toArray, List.set_cons_succ, List.set_cons_zero]
                  refine wpAny_take (i := 15) (v := .slice (some ⟨g1, 0, none⟩) na c1) rfl (by kernel_rfl) (by kernel_rfl) (by kernel_rfl) (fun _ _ _ h => h) (Or.inl ⟨by kernel_rfl, fun W => by first | rfl | go_simp⟩) ?_
                  simp only [Act.put, List.getElem_toArray, List.getElem_cons_succ, List.getElem_cons_zero, List.setIfInBounds_toArray, List.set_cons_succ, List.set_cons_zero]
                  refine wpAny_take (i := 16) (v := .int .i64 (i : Int)) rfl (by kernel_rfl) (by kernel_rfl) (by kernel_rfl) (fun _ _ _ h => h) (Or.inl ⟨by kernel_rfl, fun W => by first | rfl | go_simp⟩) ?_
                  simp only [Act.put, List.getElem_toArray, List.getElem_cons_succ, List.getElem_cons_zero, List.setIfInBounds_toArray, List.set_cons_succ, List.set_cons_zero]
                  refine wpAny_take (i := 17) (v := .int .i64 (j : Int)) rfl (by kernel_rfl) (by kernel_rfl) (by kernel_rfl) (fun _ _ _ h => h) (Or.inl ⟨by kernel_rfl, fun W => by first | rfl | go_simp⟩) ?_
                  simp only [Act.put, List.getElem_toArray, List.getElem_cons_succ, List.getElem_cons_zero, List.setIfInBounds_toArray, List.set_cons_succ, List.set_cons_zero]
                  refine wpAny_take (i := 18) (v := .int .i64 (p : Int)) rfl (by kernel_rfl) (by kernel_rfl) (by kernel_rfl) (fun _ _ _ h => h) (Or.inl ⟨by kernel_rfl, fun W => by first | rfl | go_simp⟩) ?_
                  simp only [Act.put, List.getElem_toArray, List.getElem_cons_succ, List.getElem_cons_zero, List.setIfInBounds_toArray, List.set_cons_succ, List.set_cons_zero]
                  refine wpAny_take (i := 19) (v := .pointer (some ⟨g1, p, none⟩)) rfl (by kernel_rfl) (by kernel_rfl) (by kernel_rfl) (fun _ _ _ h => h) (Or.inl ⟨by kernel_rfl, fun W => by first | rfl | go_simp⟩) ?_
                  simp only [Act.put, List.getElem_toArray, List.getElem_cons_succ, List.getElem_cons_zero, List.setIfInBounds_toArray, List.set_cons_succ, List.set_cons_zero]
                  refine wpAny_take (i := 21) (v := .slice (some ⟨g2, 0, none⟩) nb c2) rfl (by kernel_rfl) (by kernel_rfl) (by kernel_rfl) (fun _ _ _ h => h) (Or.inl ⟨by kernel_rfl, fun W => by first | rfl | go_simp⟩) ?_
                  simp only [Act.put, List.getElem_toArray, List.getElem_cons_succ, List.getElem_cons_zero, List.setIfInBounds_toArray, List.set_cons_succ, List.set_cons_zero]
                  refine wpAny_take (i := 22) (v := .int .i64 (k : Int)) rfl (by kernel_rfl) (by kernel_rfl) (by kernel_rfl) (fun _ _ _ h => h) (Or.inl ⟨by kernel_rfl, fun W => by first | rfl | go_simp⟩) ?_
                  simp only [Act.put, List.getElem_toArray, List.getElem_cons_succ, List.getElem_cons_zero, List.setIfInBounds_toArray, List.set_cons_succ, List.set_cons_zero]
                  refine wpAny_take (i := 23) (v := .int .i64 (j : Int)) rfl (by kernel_rfl) (by kernel_rfl) (by kernel_rfl) (fun _ _ _ h => h) (Or.inl ⟨by kernel_rfl, fun W => by first | rfl | go_simp⟩) ?_
                  simp only [Act.put, List.getElem_toArray, List.getElem_cons_succ, List.getElem_cons_zero, List.setIfInBounds_toArray, List.set_cons_succ, List.set_cons_zero]
                  refine wpAny_take (i := 24) (v := .int .i64 (r : Int)) rfl (by kernel_rfl) (by kernel_rfl) (by kernel_rfl) (fun _ _ _ h => h) (Or.inl ⟨by kernel_rfl, fun W => by first | rfl | go_simp⟩) ?_
                  simp only [Act.put, List.getElem_toArray, List.getElem_cons_succ, List.getElem_cons_zero, List.setIfInBounds_toArray, List.set_cons_succ, List.set_cons_zero]
                  refine wpAny_take (i := 25) (v := .pointer (some ⟨g2, r, none⟩)) rfl (by kernel_rfl) (by kernel_rfl) (by kernel_rfl) (fun _ _ _ h => h) (Or.inl ⟨by kernel_rfl, fun W => by first | rfl | go_simp⟩) ?_
                  simp only [Act.put, List.getElem_toArray, List.getElem_cons_succ, List.getElem_cons_zero, List.setIfInBounds_toArray, List.set_cons_succ, List.set_cons_zero]
                  refine wpAny_ready (rs := [20, 26]) (by kernel_rfl) (by simp) ?_
                  refine AllReady.cons rfl (fun K hK => ?_) (AllReady.cons rfl (fun K hK => ?_) AllReady.nil)
                  · go_simp
                    refine hK _ _ ?_
                    clear hK K
                    refine wpAny_ready (rs := [26]) (by kernel_rfl) (by simp) ?_
                    refine AllReady.cons rfl (fun K hK => ?_) AllReady.nil
                    go_simp
                    refine hK _ _ ?_
                    clear hK K
                    refine wpAny_ready (rs := [27]) (by kernel_rfl) (by simp) ?_
                    refine AllReady.cons rfl (fun K hK => ?_) AllReady.nil
                    go_simp
                    go_at_call 106
                    refine (CX.out _).mono ?_
                    rintro e w3 ⟨rfl, hb3⟩
                    replace x1 := (hb3.cell (p := ⟨g1, p, none⟩) hg1).trans x1
                    replace x2 := (hb3.cell (p := ⟨g2, r, none⟩) hg2).trans x2
                    replace hB := hB.trans (hb3.mono hB.size)
                    replace hg1 := Nat.lt_of_lt_of_le hg1 hb3.size
                    replace hg2 := Nat.lt_of_lt_of_le hg2 hb3.size
                    clear hb3
                    refine hK _ _ ?_
                    clear hK K
                    refine wpAny_take (i := 28) (v := .bool false) rfl (by kernel_rfl) (by kernel_rfl) (by kernel_rfl) (fun _ _ _ h => h) (Or.inl ⟨by kernel_rfl, fun W => by first | rfl | go_simp⟩) ?_
                    simp only [Act.put, List.getElem_toArray, List.getElem_cons_succ, List.getElem_cons_zero, List.setIfInBounds_toArray, List.set_cons_succ, List.set_cons_zero]
                    refine wpAny_done (by kernel_rfl) ?_ _
                    try simp only [List.getElem_toArray, List.getElem_cons_succ, List.getElem_cons_zero, List.setIfInBounds_toArray, List.set_cons_succ, List.set_cons_zero]
                    have e2 := E2.out i k
                    rw [HR.out] at e2
                    have cl : j ≤ 60 := by omega
                    clear HR HC
                    by_cases hmx : (F2 i k : Nat) < j
                    · have e3 : F2 i (k + 1) = j := by rw [e2]; omega
                      have hmx2 : ((F2 i k : Nat) : Int) < (j : Int) := by omega
                      have HE := Lib.hid e3
                      clear e2 e3
                      obtain ⟨m, hm⟩ : ∃ m, F2 i k = m := ⟨_, rfl⟩
                      rw [hm] at hmx hmx2 f2 ⊢
                      clear hm
                      go_wp2_with fail
                      go_roundw
                      case rel => exact ⟨k + 1, by omega, by go_num, by rw [HE.out]; first | rfl | (congr 1; omega) | omega, hB⟩
                      case measure => simp [intOf]; omega
                    · have e3 : F2 i (k + 1) = F2 i k := by rw [e2]; omega
                      replace hmx : j ≤ F2 i k := by omega
                      obtain ⟨m, hm⟩ : ∃ m, F2 i k = m := ⟨_, rfl⟩
                      rw [hm] at hmx f2 e3 ⊢
                      have HE := Lib.hid e3
                      clear e2 e3 hm
                      go_wp2_with fail
                      go_roundw
                      case rel => exact ⟨k + 1, by omega, by go_num, by rw [HE.out]; first | rfl | (congr 1; omega) | omega, hB⟩
                      case measure => simp [intOf]; omega
                  · go_simp
                    refine hK _ _ ?_
                    clear hK K
                    refine wpAny_ready (rs := [20]) (by kernel_rfl) (by simp) ?_
                    refine AllReady.cons rfl (fun K hK => ?_) AllReady.nil
                    go_simp
                    refine hK _ _ ?_
                    clear hK K
                    refine wpAny_ready (rs := [27]) (by kernel_rfl) (by simp) ?_
                    refine AllReady.cons rfl (fun K hK => ?_) AllReady.nil
                    go_simp
                    go_at_call 106
                    refine (CX.out _).mono ?_
                    rintro e w3 ⟨rfl, hb3⟩
                    replace x1 := (hb3.cell (p := ⟨g1, p, none⟩) hg1).trans x1
                    replace x2 := (hb3.cell (p := ⟨g2, r, none⟩) hg2).trans x2
                    replace hB := hB.trans (hb3.mono hB.size)
                    replace hg1 := Nat.lt_of_lt_of_le hg1 hb3.size
                    replace hg2 := Nat.lt_of_lt_of_le hg2 hb3.size
                    clear hb3
                    refine hK _ _ ?_
                    clear hK K
                    refine wpAny_take (i := 28) (v := .bool false) rfl (by kernel_rfl) (by kernel_rfl) (by kernel_rfl) (fun _ _ _ h => h) (Or.inl ⟨by kernel_rfl, fun W => by first | rfl | go_simp⟩) ?_
                    simp only [Act.put, List.getElem_toArray, List.getElem_cons_succ, List.getElem_cons_zero, List.setIfInBounds_toArray, List.set_cons_succ, List.set_cons_zero]
                    refine wpAny_done (by kernel_rfl) ?_ _
                    try simp only [List.getElem_toArray, List.getElem_cons_succ, List.getElem_cons_zero, List.setIfInBounds_toArray, List.set_cons_succ, List.set_cons_zero]
                    have e2 := E2.out i k
                    rw [HR.out] at e2
                    have cl : j ≤ 60 := by omega
                    clear HR HC
                    by_cases hmx : (F2 i k : Nat) < j
                    · have e3 : F2 i (k + 1) = j := by rw [e2]; omega
                      have hmx2 : ((F2 i k : Nat) : Int) < (j : Int) := by omega
                      have HE := Lib.hid e3
                      clear e2 e3
                      obtain ⟨m, hm⟩ : ∃ m, F2 i k = m := ⟨_, rfl⟩
                      rw [hm] at hmx hmx2 f2 ⊢
                      clear hm
                      go_wp2_with fail
                      go_roundw
                      case rel => exact ⟨k + 1, by omega, by go_num, by rw [HE.out]; first | rfl | (congr 1; omega) | omega, hB⟩
                      case measure => simp [intOf]; omega
                    · have e3 : F2 i (k + 1) = F2 i k := by rw [e2]; omega
                      replace hmx : j ≤ F2 i k := by omega
                      obtain ⟨m, hm⟩ : ∃ m, F2 i k = m := ⟨_, rfl⟩
                      rw [hm] at hmx f2 e3 ⊢
                      have HE := Lib.hid e3
                      clear e2 e3 hm
                      go_wp2_with fail
                      go_roundw
                      case rel => exact ⟨k + 1, by omega, by go_num, by rw [HE.out]; first | rfl | (congr 1; omega) | omega, hB⟩
                      case measure => simp [intOf]; omega
              · have HR := Lib.hid (SP.out i k j (by omega) HC.out)
                have hrb' : nb ≤ r := by omega
                clear hrb
                go_wp2_with fail
                refine wp_region_any (by kernel_rfl) ?_
                change wpAny _ _ _ _ _ _ _ (World.drew _)
                refine wpAny_take (i := 0) (v := .int .i64 (i : Int)) rfl (by kernel_rfl) (by kernel_rfl) (by kernel_rfl) (fun _ _ _ h => h) (Or.inl ⟨by kernel_rfl, fun W => by first | rfl | go_simp⟩) ?_
                simp only [Act.put, List.getElem_toArray, List.getElem_cons_succ, List.getElem_cons_zero, List.setIfInBounds_toArray, List.set_cons_succ, List.set_cons_zero]
                refine wpAny_take (i := 1) (v := .int .i64 (j : Int)) rfl (by kernel_rfl) (by kernel_rfl) (by kernel_rfl) (fun _ _ _ h => h) (Or.inl ⟨by kernel_rfl, fun W => by first | rfl | go_simp⟩) ?_
                simp only [Act.put, List.getElem_toArray, List.getElem_cons_succ, List.getElem_cons_zero, List.setIfInBounds_toArray, List.set_cons_succ, List.set_cons_zero]
                refine wpAny_take (i := 2) (v := .int .i64 (p : Int)) rfl (by kernel_rfl) (by kernel_rfl) (by kernel_rfl) (fun _ _ _ h => h) (Or.inl ⟨by kernel_rfl, fun W => by first | rfl | go_simp⟩) ?_
                simp only [Act.put, List.getElem_toArray, List.getElem_cons_succ, List.getElem_cons_zero, List.setIfInBounds_toArray, List.set_cons_succ, List.set_cons_zero]
                refine wpAny_take (i := 3) (v := .slice A1 na c1) rfl (by kernel_rfl) (by kernel_rfl) (by kernel_rfl) (fun _ _ _ h => h) (Or.inl ⟨by kernel_rfl, fun W => by first | rfl | go_simp⟩) ?_
                simp only [Act.put, List.getElem_toArray, List.getElem_cons_succ, List.getElem_cons_zero, List.setIfInBounds_toArray, List.set_cons_succ, List.set_cons_zero]
                refine wpAny_take (i := 4) (v := .int .i64 (na : Int)) rfl (by kernel_rfl) (by kernel_rfl) (by kernel_rfl) (fun _ _ _ h => h) (Or.inl ⟨by kernel_rfl, fun W => by first | rfl | go_simp⟩) ?_
                simp only [Act.put, List.getElem_toArray, List.getElem_cons_succ, List.getElem_cons_zero, List.setIfInBounds_toArray, List.set_cons_succ, List.set_cons_zero]
                refine wpAny_take (i := 5) (v := .bool true) rfl (by kernel_rfl) (by kernel_rfl) (by kernel_rfl) (fun _ _ _ h => h) (Or.inl ⟨by kernel_rfl, fun W => by first | rfl | go_simp⟩) ?_
                simp only [Act.put, List.getElem_toArray, List.getElem_cons_succ, List.getElem_cons_zero, List.setIfInBounds_toArray, List.set_cons_succ, List.set_cons_zero]
                refine wpAny_take (i := 6) (v := .bool true) rfl (by kernel_rfl) (by kernel_rfl) (by kernel_rfl) (fun _ _ _ h => h) (Or.inl ⟨by kernel_rfl, fun W => by first | rfl | go_simp⟩) ?_
                simp only [Act.put, List.getElem_toArray, List.getElem_cons_succ, List.getElem_cons_zero, List.setIfInBounds_toArray, List.set_cons_succ, List.set_cons_zero]
                refine wpAny_take (i := 7) (v := .int .i64 (k : Int)) rfl (by kernel_rfl) (by kernel_rfl) (by kernel_rfl) (fun _ _ _ h => h) (Or.inl ⟨by kernel_rfl, fun W => by first | rfl | go_simp⟩) ?_
                simp only [Act.put, List.getElem_toArray, List.getElem_cons_succ, List.getElem_cons_zero, List.setIfInBounds_toArray, List.set_cons_succ, List.set_cons_zero]
                refine wpAny_take (i := 8) (v := .int .i64 (j : Int)) rfl (by kernel_rfl) (by kernel_rfl) (by kernel_rfl) (fun _ _ _ h => h) (Or.inl ⟨by kernel_rfl, fun W => by first | rfl | go_simp⟩) ?_
                simp only [Act.put, List.getElem_toArray, List.getElem_cons_succ, List.getElem_cons_zero, List.setIfInBounds_toArray, List.set_cons_succ, List.set_cons_zero]
                refine wpAny_take (i := 9) (v := .int .i64 (r : Int)) rfl (by kernel_rfl) (by kernel_rfl) (by kernel_rfl) (fun _ _ _ h => h) (Or.inl ⟨by kernel_rfl, fun W => by first | rfl | go_simp⟩) ?_
                simp only [Act.put, List.getElem_toArray, List.getElem_cons_succ, List.getElem_cons_zero, List.setIfInBounds_toArray, List.set_cons_succ, List.set_cons_zero]
                refine wpAny_take (i := 10) (v := .slice A2 nb c2) rfl (by kernel_rfl) (by kernel_rfl) (by kernel_rfl) (fun _ _ _ h => h) (Or.inl ⟨by kernel_rfl, fun W => by first | rfl | go_simp⟩) ?_
                simp only [Act.put, List.getElem_toArray, List.getElem_cons_succ, List.getElem_cons_zero, List.setIfInBounds_toArray, List.set_cons_succ, List.set_cons_zero]
                refine wpAny_take (i := 11) (v := .int .i64 (nb : Int)) rfl (by kernel_rfl) (by kernel_rfl) (by kernel_rfl) (fun _ _ _ h => h) (Or.inl ⟨by kernel_rfl, fun W => by first | rfl | go_simp⟩) ?_
                simp only [Act.put, List.getElem_toArray, List.getElem_cons_succ, List.getElem_cons_zero, List.setIfInBounds_toArray, List.set_cons_succ, List.set_cons_zero]
                refine wpAny_take (i := 12) (v := .bool false) rfl (by kernel_rfl) (by kernel_rfl) (by kernel_rfl) (fun _ _ _ h => h) (Or.inl ⟨by kernel_rfl, fun W => by first | rfl | go_simp⟩) ?_
                simp only [Act.put, List.getElem_toArray, List.getElem_cons_succ, List.getElem_cons_zero, List.setIfInBounds_toArray, List.set_cons_succ, List.set_cons_zero]
                refine wpAny_take (i := 13) (v := .bool false) rfl (by kernel_rfl) (by kernel_rfl) (by kernel_rfl) (fun _ _ _ h => h) (Or.inl ⟨by kernel_rfl, fun W => by first | rfl | go_simp⟩) ?_
                simp only [Act.put, List.getElem_toArray, List.getElem_cons_succ, List.getElem_cons_zero, List.setIfInBounds_toArray, List.set_cons_succ, List.set_cons_zero]
                refine wpAny_take (i := 14) (v := .bool false) rfl (by kernel_rfl) (by kernel_rfl) (by kernel_rfl) (fun _ _ _ h => h) (Or.inl ⟨by kernel_rfl, fun W => by first | rfl | go_simp⟩) ?_
                simp only [Act.put, List.getElem_toArray, List.getElem_cons_succ, List.getElem_cons_zero, List.setIfInBounds_toArray, List.set_cons_succ, List.set_cons_zero]
                refine wpAny_take (i := 15) (v := undef) rfl (by kernel_rfl) (by kernel_rfl) (by kernel_rfl) (fun _ _ _ h => h) (Or.inr ⟨by kernel_rfl, rfl⟩) ?_
                simp only [Act.put, List.getElem_toArray, List.getElem_cons_succ, List.getElem_cons_zero, List.setIfInBounds_toArray, List.set_cons_succ, List.set_cons_zero]
                refine wpAny_take (i := 16) (v := undef) rfl (by kernel_rfl) (by kernel_rfl) (by kernel_rfl) (fun _ _ _ h => h) (Or.inr ⟨by kernel_rfl, rfl⟩) ?_
                simp only [Act.put, List.getElem_toArray, List.getElem_cons_succ, List.getElem_cons_zero, List.setIfInBounds_toArray, List.set_cons_succ, List.set_cons_zero]
                refine wpAny_take (i := 17) (v := undef) rfl (by kernel_rfl) (by kernel_rfl) (by kernel_rfl) (fun _ _ _ h => h) (Or.inr ⟨by kernel_rfl, rfl⟩) ?_
                simp only [Act.put, List.getElem_toArray, List.getElem_cons_succ, List.getElem_cons_zero, List.setIfInBounds_toArray, List.set_cons_succ, List.set_cons_zero]
                refine wpAny_take (i := 18) (v := undef) rfl (by kernel_rfl) (by kernel_rfl) (by kernel_rfl) (fun _ _ _ h => h) (Or.inr ⟨by kernel_rfl, rfl⟩) ?_
                simp only [Act.put, List.getElem_toArray, List.getElem_cons_succ, List.getElem_cons_zero, List.setIfInBounds_toArray, List.set_cons_succ, List.set_cons_zero]
                refine wpAny_take (i := 19) (v := undef) rfl (by kernel_rfl) (by kernel_rfl) (by kernel_rfl) (fun _ _ _ h => h) (Or.inr ⟨by kernel_rfl, rfl⟩) ?_
                simp only [Act.put, List.getElem_toArray, List.getElem_cons_succ, List.getElem_cons_zero, List.setIfInBounds_toArray, List.set_cons_succ, List.set_cons_zero]
                refine wpAny_take (i := 20) (v := undef) rfl (by kernel_rfl) (by kernel_rfl) (by kernel_rfl) (fun _ _ _ h => h) (Or.inr ⟨by kernel_rfl, rfl⟩) ?_
                simp only [Act.put, List.getElem_toArray, List.getElem_cons_succ, List.getElem_cons_zero, List.setIfInBounds_toArray, List.set_cons_succ, List.set_cons_zero]
                refine wpAny_take (i := 21) (v := undef) rfl (by kernel_rfl) (by kernel_rfl) (by kernel_rfl) (fun _ _ _ h => h) (Or.inr ⟨by kernel_rfl, rfl⟩) ?_
                simp only [Act.put, List.getElem_toArray, List.getElem_cons_succ, List.getElem_cons_zero, List.setIfInBounds_toArray, List.set_cons_succ, List.set_cons_zero]
                refine wpAny_take (i := 22) (v := undef) rfl (by kernel_rfl) (by kernel_rfl) (by kernel_rfl) (fun _ _ _ h => h) (Or.inr ⟨by kernel_rfl, rfl⟩) ?_
                simp only [Act.put, List.getElem_toArray, List.getElem_cons_succ, List.getElem_cons_zero, List.setIfInBounds_toArray, List.set_cons_succ, List.set_cons_zero]
                refine wpAny_take (i := 23) (v := undef) rfl (by kernel_rfl) (by kernel_rfl) (by kernel_rfl) (fun _ _ _ h => h) (Or.inr ⟨by kernel_rfl, rfl⟩) ?_
                simp only [Act.put, List.getElem_toArray, List.getElem_cons_succ, List.getElem_cons_zero, List.setIfInBounds_toArray, List.set_cons_succ, List.set_cons_zero]
                refine wpAny_take (i := 24) (v := undef) rfl (by kernel_rfl) (by kernel_rfl) (by kernel_rfl) (fun _ _ _ h => h) (Or.inr ⟨by kernel_rfl, rfl⟩) ?_
                simp only [Act.put, List.getElem_toArray, List.getElem_cons_succ, List.getElem_cons_zero, List.setIfInBounds_toArray, List.set_cons_succ, List.set_cons_zero]
                refine wpAny_take (i := 25) (v := undef) rfl (by kernel_rfl) (by kernel_rfl) (by kernel_rfl) (fun _ _ _ h => h) (Or.inr ⟨by kernel_rfl, rfl⟩) ?_
                simp only [Act.put, List.getElem_toArray, List.getElem_cons_succ, List.getElem_cons_zero, List.setIfInBounds_toArray, List.set_cons_succ, List.set_cons_zero]
                refine wpAny_take (i := 26) (v := undef) rfl (by kernel_rfl) (by kernel_rfl) (by kernel_rfl) (fun _ _ _ h => h) (Or.inr ⟨by kernel_rfl, rfl⟩) ?_
                simp only [Act.put, List.getElem_toArray, List.getElem_cons_succ, List.getElem_cons_zero, List.setIfInBounds_toArray, List.set_cons_succ, List.set_cons_zero]
                refine wpAny_take (i := 27) (v := undef) rfl (by kernel_rfl) (by kernel_rfl) (by kernel_rfl) (fun _ _ _ h => h) (Or.inr ⟨by kernel_rfl, rfl⟩) ?_
                simp only [Act.put, List.getElem_toArray, List.getElem_cons_succ, List.getElem_cons_zero, List.setIfInBounds_toArray, List.set_cons_succ, List.set_cons_zero]
                refine wpAny_take (i := 28) (v := .bool false) rfl (by kernel_rfl) (by kernel_rfl) (by kernel_rfl) (fun _ _ _ h => h) (Or.inl ⟨by kernel_rfl, fun W => by first | rfl | go_simp⟩) ?_
                simp only [Act.put, List.getElem_toArray, List.getElem_cons_succ, List.getElem_cons_zero, List.setIfInBounds_toArray, List.set_cons_succ, List.set_cons_zero]
                refine wpAny_done (by kernel_rfl) ?_ _
                try simp only [List.getElem_toArray, List.getElem_cons_succ, List.getElem_cons_zero, List.setIfInBounds_toArray, List.set_cons_succ, List.set_cons_zero]
                replace hB := hB.drew
                have e2 := E2.out i k
                rw [HR.out] at e2
                have cl : j ≤ 60 := by omega
                clear HR HC
                by_cases hmx : (F2 i k : Nat) < j
                · have e3 : F2 i (k + 1) = j := by rw [e2]; omega
                  have hmx2 : ((F2 i k : Nat) : Int) < (j : Int) := by omega
                  have HE := Lib.hid e3
                  clear e2 e3
                  obtain ⟨m, hm⟩ : ∃ m, F2 i k = m := ⟨_, rfl⟩
                  rw [hm] at hmx hmx2 f2 ⊢
                  clear hm
                  go_wp2_with fail
                  go_roundw
                  case rel => exact ⟨k + 1, by omega, by go_num, by rw [HE.out]; first | rfl | (congr 1; omega) | omega, hB⟩
                  case measure => simp [intOf]; omega
                · have e3 : F2 i (k + 1) = F2 i k := by rw [e2]; omega
                  replace hmx : j ≤ F2 i k := by omega
                  obtain ⟨m, hm⟩ : ∃ m, F2 i k = m := ⟨_, rfl⟩
                  rw [hm] at hmx f2 e3 ⊢
                  have HE := Lib.hid e3
                  clear e2 e3 hm
                  go_wp2_with fail
                  go_roundw
                  case rel => exact ⟨k + 1, by omega, by go_num, by rw [HE.out]; first | rfl | (congr 1; omega) | omega, hB⟩
                  case measure => simp [intOf]; omega
            · have HR := Lib.hid (SP.out i k j (by omega) HC.out)
              have hpa' : na ≤ p := by omega
              clear hpa
              go_wp2_with fail
              refine wp_region_any (by kernel_rfl) ?_
              change wpAny _ _ _ _ _ _ _ (World.drew _)
              refine wpAny_take (i := 0) (v := .int .i64 (i : Int)) rfl (by kernel_rfl) (by kernel_rfl) (by kernel_rfl) (fun _ _ _ h => h) (Or.inl ⟨by kernel_rfl, fun W => by first | rfl | go_simp⟩) ?_
              simp only [Act.put, List.getElem_toArray, List.getElem_cons_succ, List.getElem_cons_zero, List.setIfInBounds_toArray, List.set_cons_succ, List.set_cons_zero]
              refine wpAny_take (i := 1) (v := .int .i64 (j : Int)) rfl (by kernel_rfl) (by kernel_rfl) (by kernel_rfl) (fun _ _ _ h => h) (Or.inl ⟨by kernel_rfl, fun W => by first | rfl | go_simp⟩) ?_
              simp only [Act.put, List.getElem_toArray, List.getElem_cons_succ, List.getElem_cons_zero, List.setIfInBounds_toArray, List.set_cons_succ, List.set_cons_zero]
              refine wpAny_take (i := 2) (v := .int .i64 (p : Int)) rfl (by kernel_rfl) (by kernel_rfl) (by kernel_rfl) (fun _ _ _ h => h) (Or.inl ⟨by kernel_rfl, fun W => by first | rfl | go_simp⟩) ?_
              simp only [Act.put, List.getElem_toArray, List.getElem_cons_succ, List.getElem_cons_zero, List.setIfInBounds_toArray, List.set_cons_succ, List.set_cons_zero]
              refine wpAny_take (i := 3) (v := .slice A1 na c1) rfl (by kernel_rfl) (by kernel_rfl) (by kernel_rfl) (fun _ _ _ h => h) (Or.inl ⟨by kernel_rfl, fun W => by first | rfl | go_simp⟩) ?_
              simp only [Act.put, List.getElem_toArray, List.getElem_cons_succ, List.getElem_cons_zero, List.setIfInBounds_toArray, List.set_cons_succ, List.set_cons_zero]
              refine wpAny_take (i := 4) (v := .int .i64 (na : Int)) rfl (by kernel_rfl) (by kernel_rfl) (by kernel_rfl) (fun _ _ _ h => h) (Or.inl ⟨by kernel_rfl, fun W => by first | rfl | go_simp⟩) ?_
              simp only [Act.put, List.getElem_toArray, List.getElem_cons_succ, List.getElem_cons_zero, List.setIfInBounds_toArray, List.set_cons_succ, List.set_cons_zero]
              refine wpAny_take (i := 5) (v := .bool false) rfl (by kernel_rfl) (by kernel_rfl) (by kernel_rfl) (fun _ _ _ h => h) (Or.inl ⟨by kernel_rfl, fun W => by first | rfl | go_simp⟩) ?_
              simp only [Act.put, List.getElem_toArray, List.getElem_cons_succ, List.getElem_cons_zero, List.setIfInBounds_toArray, List.set_cons_succ, List.set_cons_zero]
              refine wpAny_take (i := 6) (v := .bool false) rfl (by kernel_rfl) (by kernel_rfl) (by kernel_rfl) (fun _ _ _ h => h) (Or.inl ⟨by kernel_rfl, fun W => by first | rfl | go_simp⟩) ?_
              simp only [Act.put, List.getElem_toArray, List.getElem_cons_succ, List.getElem_cons_zero, List.setIfInBounds_toArray, List.set_cons_succ, List.set_cons_zero]
              refine wpAny_take (i := 7) (v := undef) rfl (by kernel_rfl) (by kernel_rfl) (by kernel_rfl) (fun _ _ _ h => h) (Or.inr ⟨by kernel_rfl, rfl⟩) ?_
              simp only [Act.put, List.getElem_toArray, List.getElem_cons_succ, List.getElem_cons_zero, List.setIfInBounds_toArray, List.set_cons_succ, List.set_cons_zero]
              refine wpAny_take (i := 8) (v := undef) rfl (by kernel_rfl) (by kernel_rfl) (by kernel_rfl) (fun _ _ _ h => h) (Or.inr ⟨by kernel_rfl, rfl⟩) ?_
              simp only [Act.put, List.getElem_toArray, List.getElem_cons_succ, List.getElem_cons_zero, List.setIfInBounds_toArray, List.set_cons_succ, List.set_cons_zero]
              refine wpAny_take (i := 9) (v := undef) rfl (by kernel_rfl) (by kernel_rfl) (by kernel_rfl) (fun _ _ _ h => h) (Or.inr ⟨by kernel_rfl, rfl⟩) ?_
              simp only [Act.put, List.getElem_toArray, List.getElem_cons_succ, List.getElem_cons_zero, List.setIfInBounds_toArray, List.set_cons_succ, List.set_cons_zero]
              refine wpAny_take (i := 10) (v := undef) rfl (by kernel_rfl) (by kernel_rfl) (by kernel_rfl) (fun _ _ _ h => h) (Or.inr ⟨by kernel_rfl, rfl⟩) ?_
              simp only [Act.put, List.getElem_toArray, List.getElem_cons_succ, List.getElem_cons_zero, List.setIfInBounds_toArray, List.set_cons_succ, List.set_cons_zero]
              refine wpAny_take (i := 11) (v := undef) rfl (by kernel_rfl) (by kernel_rfl) (by kernel_rfl) (fun _ _ _ h => h) (Or.inr ⟨by kernel_rfl, rfl⟩) ?_
              simp only [Act.put, List.getElem_toArray, List.getElem_cons_succ, List.getElem_cons_zero, List.setIfInBounds_toArray, List.set_cons_succ, List.set_cons_zero]
              refine wpAny_take (i := 12) (v := undef) rfl (by kernel_rfl) (by kernel_rfl) (by kernel_rfl) (fun _ _ _ h => h) (Or.inr ⟨by kernel_rfl, rfl⟩) ?_
              simp only [Act.put, List.getElem_toArray, List.getElem_cons_succ, List.getElem_cons_zero, List.setIfInBounds_toArray, List.set_cons_succ, List.set_cons_zero]
              refine wpAny_take (i := 13) (v := .bool false) rfl (by kernel_rfl) (by kernel_rfl) (by kernel_rfl) (fun _ _ _ h => h) (Or.inl ⟨by kernel_rfl, fun W => by first | rfl | go_simp⟩) ?_
              simp only [Act.put, List.getElem_toArray, List.getElem_cons_succ, List.getElem_cons_zero, List.setIfInBounds_toArray, List.set_cons_succ, List.set_cons_zero]
              refine wpAny_take (i := 14) (v := .bool false) rfl (by kernel_rfl) (by kernel_rfl) (by kernel_rfl) (fun _ _ _ h => h) (Or.inl ⟨by kernel_rfl, fun W => by first | rfl | go_simp⟩) ?_
              simp only [Act.put, List.getElem_toArray, List.getElem_cons_succ, List.getElem_cons_zero, List.setIfInBounds_toArray, List.set_cons_succ, List.set_cons_zero]
              refine wpAny_take (i := 15) (v := undef) rfl (by kernel_rfl) (by kernel_rfl) (by kernel_rfl) (fun _ _ _ h => h) (Or.inr ⟨by kernel_rfl, rfl⟩) ?_
              simp only [Act.put, List.getElem_toArray, List.getElem_cons_succ, List.getElem_cons_zero, List.setIfInBounds_toArray, List.set_cons_succ, List.set_cons_zero]
              refine wpAny_take (i := 16) (v := undef) rfl (by kernel_rfl) (by kernel_rfl) (by kernel_rfl) (fun _ _ _ h => h) (Or.inr ⟨by kernel_rfl, rfl⟩) ?_
              simp only [Act.put, List.getElem_toArray, List.getElem_cons_succ, List.getElem_cons_zero, List.setIfInBounds_toArray, List.set_cons_succ, List.set_cons_zero]
              refine wpAny_take (i := 17) (v := undef) rfl (by kernel_rfl) (by kernel_rfl) (by kernel_rfl) (fun _ _ _ h => h) (Or.inr ⟨by kernel_rfl, rfl⟩) ?_
              simp only [Act.put, List.getElem_toArray, List.getElem_cons_succ, List.getElem_cons_zero, List.setIfInBounds_toArray, List.set_cons_succ, List.set_cons_zero]
              refine wpAny_take (i := 18) (v := undef) rfl (by kernel_rfl) (by kernel_rfl) (by kernel_rfl) (fun _ _ _ h => h) (Or.inr ⟨by kernel_rfl, rfl⟩) ?_
              simp only [Act.put, List.getElem_toArray, List.getElem_cons_succ, List.getElem_cons_zero, List.setIfInBounds_toArray, List.set_cons_succ, List.set_cons_zero]
              refine wpAny_take (i := 19) (v := undef) rfl (by kernel_rfl) (by kernel_rfl) (by kernel_rfl) (fun _ _ _ h => h) (Or.inr ⟨by kernel_rfl, rfl⟩) ?_
              simp only [Act.put, List.getElem_toArray, List.getElem_cons_succ, List.getElem_cons_zero, List.setIfInBounds_toArray, List.set_cons_succ, List.set_cons_zero]
              refine wpAny_take (i := 20) (v := undef) rfl (by kernel_rfl) (by kernel_rfl) (by kernel_rfl) (fun _ _ _ h => h) (Or.inr ⟨by kernel_rfl, rfl⟩) ?_
              simp only [Act.put, List.getElem_toArray, List.getElem_cons_succ, List.getElem_cons_zero, List.setIfInBounds_toArray, List.set_cons_succ, List.set_cons_zero]
              refine wpAny_take (i := 21) (v := undef) rfl (by kernel_rfl) (by kernel_rfl) (by kernel_rfl) (fun _ _ _ h => h) (Or.inr ⟨by kernel_rfl, rfl⟩) ?_
              simp only [Act.put, List.getElem_toArray, List.getElem_cons_succ, List.getElem_cons_zero, List.setIfInBounds_toArray, List.set_cons_succ, List.set_cons_zero]
              refine wpAny_take (i := 22) (v := undef) rfl (by kernel_rfl) (by kernel_rfl) (by kernel_rfl) (fun _ _ _ h => h) (Or.inr ⟨by kernel_rfl, rfl⟩) ?_
              simp only [Act.put, List.getElem_toArray, List.getElem_cons_succ, List.getElem_cons_zero, List.setIfInBounds_toArray, List.set_cons_succ, List.set_cons_zero]
              refine wpAny_take (i := 23) (v := undef) rfl (by kernel_rfl) (by kernel_rfl) (by kernel_rfl) (fun _ _ _ h => h) (Or.inr ⟨by kernel_rfl, rfl⟩) ?_
              simp only [Act.put, List.getElem_toArray, List.getElem_cons_succ, List.getElem_cons_zero, List.setIfInBounds_toArray, List.set_cons_succ, List.set_cons_zero]
              refine wpAny_take (i := 24) (v := undef) rfl (by kernel_rfl) (by kernel_rfl) (by kernel_rfl) (fun _ _ _ h => h) (Or.inr ⟨by kernel_rfl, rfl⟩) ?_
              simp only [Act.put, List.getElem_toArray, List.getElem_cons_succ, List.getElem_cons_zero, List.setIfInBounds_toArray, List.set_cons_succ, List.set_cons_zero]
              refine wpAny_take (i := 25) (v := undef) rfl (by kernel_rfl) (by kernel_rfl) (by kernel_rfl) (fun _ _ _ h => h) (Or.inr ⟨by kernel_rfl, rfl⟩) ?_
              simp only [Act.put, List.getElem_toArray, List.getElem_cons_succ, List.getElem_cons_zero, List.setIfInBounds_toArray, List.set_cons_succ, List.set_cons_zero]
              refine wpAny_take (i := 26) (v := undef) rfl (by kernel_rfl) (by kernel_rfl) (by kernel_rfl) (fun _ _ _ h => h) (Or.inr ⟨by kernel_rfl, rfl⟩) ?_
              simp only [Act.put, List.getElem_toArray, List.getElem_cons_succ, List.getElem_cons_zero, List.setIfInBounds_toArray, List.set_cons_succ, List.set_cons_zero]
              refine wpAny_take (i := 27) (v := undef) rfl (by kernel_rfl) (by kernel_rfl) (by kernel_rfl) (fun _ _ _ h => h) (Or.inr ⟨by kernel_rfl, rfl⟩) ?_
              simp only [Act.put, List.getElem_toArray, List.getElem_cons_succ, List.getElem_cons_zero, List.setIfInBounds_toArray, List.set_cons_succ, List.set_cons_zero]
              refine wpAny_take (i := 28) (v := .bool false) rfl (by kernel_rfl) (by kernel_rfl) (by kernel_rfl) (fun _ _ _ h => h) (Or.inl ⟨by kernel_rfl, fun W => by first | rfl | go_simp⟩) ?_
              simp only [Act.put, List.getElem_toArray, List.getElem_cons_succ, List.getElem_cons_zero, List.setIfInBounds_toArray, List.set_cons_succ, List.set_cons_zero]
              refine wpAny_done (by kernel_rfl) ?_ _
              try simp only [List.getElem_toArray, List.getElem_cons_succ, List.getElem_cons_zero, List.setIfInBounds_toArray, List.set_cons_succ, List.set_cons_zero]
              replace hB := hB.drew
              have e2 := E2.out i k
              rw [HR.out] at e2
              have cl : j ≤ 60 := by omega
              clear HR HC
              by_cases hmx : (F2 i k : Nat) < j
              · have e3 : F2 i (k + 1) = j := by rw [e2]; omega
                have hmx2 : ((F2 i k : Nat) : Int) < (j : Int) := by omega
                have HE := Lib.hid e3
                clear e2 e3
                obtain ⟨m, hm⟩ : ∃ m, F2 i k = m := ⟨_, rfl⟩
                rw [hm] at hmx hmx2 f2 ⊢
                clear hm
                go_wp2_with fail
                go_roundw
                case rel => exact ⟨k + 1, by omega, by go_num, by rw [HE.out]; first | rfl | (congr 1; omega) | omega, hB⟩
                case measure => simp [intOf]; omega
              · have e3 : F2 i (k + 1) = F2 i k := by rw [e2]; omega
                replace hmx : j ≤ F2 i k := by omega
                obtain ⟨m, hm⟩ : ∃ m, F2 i k = m := ⟨_, rfl⟩
                rw [hm] at hmx f2 e3 ⊢
                have HE := Lib.hid e3
                clear e2 e3 hm
                go_wp2_with fail
                go_roundw
                case rel => exact ⟨k + 1, by omega, by go_num, by rw [HE.out]; first | rfl | (congr 1; omega) | omega, hB⟩
                case measure => simp [intOf]; omega
        · obtain rfl : k = nb := by omega
          go_wp2_with fail
          go_roundw
          case rel => exact ⟨i + 1, by omega, by go_num, by rw [E1.out], hB⟩
          case measure => simp [intOf]; omega
    · obtain rfl : i = na := by omega
      go_wp2_with fail
      go_ret2
      exact ⟨rfl, hB⟩
end Go.Proofs.YtmpgokijlikddaaGreatDoor
