/- The set of all days of a range with an indiction of another kind than the Roman, by the reference: year by year. Conditions: a range of days. -/
import Derived.Test.YtnoeakhhokbikaaIndS1
namespace Go.Proofs.Ytnoeakhhokbikaa
open Go.RowKit
set_option maxRecDepth 100000 in
set_option maxHeartbeats 4000000 in
theorem s_l08Set0 (i a b : Int) (w : World) (a0 : 0 ≤ a) (hab : a ≤ b) (b1 : b ≤ 730499) (hg : b - a ≤ 40000) : Calls Try.prog 25 #[.int .i64 0, .int .i64 i, .int .i64 a, .int .i64 b] w fun e w' => ∃ v, e = .returned v ∧ OwnP w' w.heap.size v (indSet 0 i a b) ∧ Below w.heap.size w w' := by
  have fd := fieldD0
  obtain ⟨ya0, ya1⟩ := yr_bd a a0 (by omega)
  obtain ⟨yb0, yb1⟩ := yr_bd b (by omega) b1
  have hyy : yr a ≤ yr b := by unfold yr; omega
  have hyg : yr b ≤ yr a + 110 := by unfold yr; omega
  have HS := Lib.hid (fun j => isps_snoc 0 i a b j (yr a))
  have HB := Lib.hid (fun j => isps_bd 0 i a b j (yr a))
  have HL := Lib.hid (fun j => (isps_ok 0 i a b j (yr a)).2.1)
  have HU := Lib.hid (show indSet 0 i a b = uni (isps 0 i a b (yr b - yr a + 2).toNat (yr a)) from rfl)
  have HE := Lib.hid (fun y => (⟨rfl, rfl⟩ : (isp 0 a b y).1 = max a (num (y - 1) 9 1) ∧ (isp 0 a b y).2 = min b (num y 9 1 - 1)))
  have con := fun W => s_l01Old b W (by omega) b1
  obtain ⟨YA, hYA⟩ : ∃ x, yr a = x := ⟨_, rfl⟩
  obtain ⟨YB, hYB⟩ : ∃ x, yr b = x := ⟨_, rfl⟩
  have CA := Lib.hid (fun W => s_l01Old a W a0 (by omega))
  rw [hYA] at CA HS HB HL HU ya0 ya1 hyy hyg
  rw [hYB] at con HU yb0 yb1 hyy hyg
  have CON := Lib.hid con
  clear con hYA hYB
  go_enter Try.func25, Try.ntmps25
  go_wp2_with fail
  refine (CA.out _).mono ?_
  rintro e w0 ⟨rfl, hb⟩
  have V := (OwnP.lit0 w).below hb
  have L := below_step' (o := .cells #[] 51) (Below.refl _ _) hb (Nat.le_refl _)
  clear hb CA
  go_wp2_with fail
  go_loopw [9, 10] (fun o y wr => ∃ j : Nat, YA + j ≤ YB + 2 ∧ y = .int .i64 (YA + j) ∧ OwnP wr w.heap.size o (isps 0 i a b j YA) ∧ Below w.heap.size w wr) (fun _ y _ => (YB + 2 - intOf y).toNat)
  case atStart => exact ⟨0, by omega, by simp, V, L⟩
  case round =>
    clear V L
    obtain ⟨j, hj, rfl, V, L⟩ := hrel
    have hL := L.size
    by_cases hlt : YA + j ≤ YB + 1
    · have hcast : YA + ((j + 1 : Nat) : Int) = YA + j + 1 := by omega
      have HCAST := Lib.hid hcast
      have hs := HS.out j
      obtain ⟨E1, E2⟩ := HE.out (YA + j)
      have hll := HL.out j
      obtain ⟨y, hy⟩ : ∃ y, YA + (j : Int) = y := ⟨_, rfl⟩
      have hn1 := nyear_bd y (by omega) (by omega)
      have hn2 := nyear_bd (y + 1) (by omega) (by omega)
      have hc1 := num_11 y
      have hc2 := num_1231 y
      rw [hy] at hs E1 E2
      obtain ⟨I, hI⟩ : ∃ I, isp 0 a b y = I := ⟨_, rfl⟩
      rw [hI] at hs E1 E2
      obtain ⟨N1, hN1⟩ : ∃ x, nyear y = x := ⟨_, rfl⟩
      obtain ⟨N2, hN2⟩ : ∃ x, nyear (y + 1) = x := ⟨_, rfl⟩
      have hin9 := num9_in y 1 (by omega) (by omega)
      rw [hN1] at hn1 hc1 hin9
      rw [hN2] at hn2 hc2 hin9
      obtain ⟨hi0, hi1⟩ := hin9
      have HY1 := Lib.hid hN1
      clear hcast hI hN1 hN2
      rw [hy] at hlt hj HCAST ⊢
      go_wp2_with fail
      refine (CON.out _).mono ?_
      rintro e w1 ⟨rfl, hb⟩
      replace V := V.below hb
      replace L := L.trans (hb.mono hL)
      clear hb
      go_wp2_with fail
      refine (s_num y 1 1 _ (by omega) (by omega) (by omega) (by omega) (by omega) (by omega)).mono ?_
      rintro e w2 ⟨rfl, hb⟩
      replace V := V.below hb
      replace L := below_step L hb
      clear hb
      rw [hc1]
      go_wp2_with fail
      refine (s_num y 12 31 _ (by omega) (by omega) (by omega) (by omega) (by omega) (by omega)).mono ?_
      rintro e w3 ⟨rfl, hb⟩
      replace V := V.below hb
      replace L := below_step L hb
      clear hb
      rw [hc2]
      have HW3 := Lib.hid L.size
      have HVX := Lib.hid V.ne_top
      go_wp2_with fail
      refine (s_num9 (y - 1) 1 _ (by omega) (by omega) (by omega) (by omega)).mono ?_
      rintro e w4 ⟨⟨N, rfl, ⟨n0, n1⟩, hN⟩, hb⟩
      have X := ((Blk.new w3 51 #[.int .i64 N1, .int .i64 (N2 - 1)]).alloc (.cells #[.int .i64 1, .int .i64 24] 2)).below hb (by simp; omega)
      replace V := ((V.alloc (.cells #[.int .i64 N1, .int .i64 (N2 - 1)] 51)).alloc (.cells #[.int .i64 1, .int .i64 24] 2)).below hb
      replace L := below_step (below_more (below_more L L.size (.cells #[.int .i64 N1, .int .i64 (N2 - 1)] 51)) (by simp; have := L.size; omega) (.cells #[.int .i64 1, .int .i64 24] 2)) hb
      clear hb
      go_wp2_with fail
      refine (s_num y 9 1 _ (by omega) (by omega) (by omega) (by omega) (by omega) (by omega)).mono ?_
      rintro e w5 ⟨rfl, hb⟩
      replace X := X.below hb X.lt
      replace V := V.below hb
      replace L := below_step L hb
      clear hb
      have hny : y = 1 → N1 = 0 := fun e => by rw [← HY1.out, e]; rfl
      have hpr := num9_in (y - 1) 1 (by omega) (by omega)
      rw [show y - 1 + 1 = y from by omega, HY1.out] at hpr
      have hmx : max a N = max a (num (y - 1) 9 1) := by
        rcases hN with ⟨_, h⟩ | ⟨h1, h2⟩
        · rw [h]
        · have := hny (by omega); omega
      rw [← hmx] at E1
      clear hmx hN hpr hny
      obtain ⟨M, hM⟩ : ∃ x, num y 9 1 = x := ⟨_, rfl⟩
      rw [hM] at E2 hi0 hi1 ⊢
      have m0 : 0 ≤ M := by omega
      have m1 : M ≤ 40000000 := by omega
      clear hM
      have hm1 : (if a < N then N else a) = I.1 := by rw [E1]; split <;> omega
      have hm2 : (if b < M - 1 then b else M - 1) = I.2 := by rw [E2]; split <;> omega
      have hm3 : (if M - 1 < b then M - 1 else b) = I.2 := by rw [E2]; split <;> omega
      have x0 := X.c0
      have x1 := X.c1
      have f0 := X.frozen 0
      have f1 := X.frozen 1
      have hx := X.lt
      have HV := Lib.hid V
      have HX := Lib.hid X
      have HLL := Lib.hid L
      have hxw : w.heap.size ≤ w3.heap.size := by have := HW3.out; omega
      clear V X L E1 E2 hn1 hn2 hc1 hc2
      go_wp2_with fail
      clear hm1 hm2 hm3 x0 x1 f0 f1 hx hi0 hi1 m0 m1 n0 n1
      obtain ⟨I1, I2⟩ := I
      dsimp only
      have X := (((HX.out.s0 (.int .i64 N)).s1 (.int .i64 (M - 1))).s0 (.int .i64 I1)).s1 (.int .i64 I2)
      have V := HV.out.kept (grown_set1 (grown_set1 (grown_set1 (grown_set1 (grown_of_below (Below.refl _ _) (some w3.heap.size)) 0 (.int .i64 N)) 1 (.int .i64 (M - 1))) 0 (.int .i64 I1)) 1 (.int .i64 I2)) (.inr HVX.out)
      have L := below_set' (below_set' (below_set' (below_set' HLL.out hxw 0 (.int .i64 N)) hxw 1 (.int .i64 (M - 1))) hxw 0 (.int .i64 I1)) hxw 1 (.int .i64 I2)
      clear HX HV HLL HVX
      refine (s_indiction y _ (by omega) (by omega)).mono ?_
      rintro e w6 ⟨rfl, hw4⟩
      have x0 := X.c0
      have x1 := X.c1
      have hx := X.lt
      rw [hw4] at x0 x1 hx V L
      clear hw4 X
      change isps 0 i a b (j + 1) YA = isps 0 i a b j YA ++ (if (y + 2) % 15 + 1 = i ∧ I1 ≤ I2 then [(I1, I2)] else []) at hs
      by_cases hc : (y + 2) % 15 + 1 = i
      · by_cases hle : I1 ≤ I2
        · rw [if_pos ⟨hc, hle⟩] at hs
          have HN := Lib.hid hs
          clear hs
          have hV := L.size
          go_wp2_with (at_builtin; refine wpList_appP rfl _ _ rfl _ _ _ _ _ _ rfl V _ rfl rfl (by omega) (by omega) ?_; intro v' w7 V2 hg2)
          go_roundw
          case rel => exact ⟨j + 1, by omega, by rw [HCAST.out], by rw [HN.out]; exact V2, V.below_grown L hg2 hV⟩
          case measure => simp [intOf]; omega
        · rw [if_neg (fun h => hle h.2), List.append_nil] at hs
          have HN := Lib.hid hs
          clear hs
          have hle' : I2 < I1 := by omega
          clear hle
          go_wp2_with fail
          go_roundw
          case rel => exact ⟨j + 1, by omega, by rw [HCAST.out], by rw [HN.out]; exact V, L⟩
          case measure => simp [intOf]; omega
      · rw [if_neg (fun h => hc h.1), List.append_nil] at hs
        have HN := Lib.hid hs
        clear hs
        go_wp2_with fail
        go_roundw
        case rel => exact ⟨j + 1, by omega, by rw [HCAST.out], by rw [HN.out]; exact V, L⟩
        case measure => simp [intOf]; omega
    · obtain rfl : j = (YB - YA + 2).toNat := by omega
      go_wp2_with fail
      refine (CON.out _).mono ?_
      rintro e w1 ⟨rfl, hb⟩
      replace V := V.below hb
      replace L := L.trans (hb.mono hL)
      clear hb
      have hll := HL.out (YB - YA + 2).toNat
      have hbd : ∀ s ∈ isps 0 i a b (YB - YA + 2).toNat YA, spB s := fun s h => by
        obtain ⟨q0, q1, q2⟩ := HB.out _ s h
        exact ⟨by omega, by omega, by omega, by omega⟩
      have MK := Lib.hid (s_Make w1 V (by omega) hbd)
      clear hbd V
      go_wp2_with fail
      refine MK.out.mono ?_
      rintro e w2 ⟨v', rfl, V2, hb⟩
      have hL1 := L.size
      go_wp2_with fail
      go_ret
      exact ⟨_, rfl, by rw [HU.out]; exact V2.mono hL1, below_step L hb⟩
end Go.Proofs.Ytnoeakhhokbikaa
