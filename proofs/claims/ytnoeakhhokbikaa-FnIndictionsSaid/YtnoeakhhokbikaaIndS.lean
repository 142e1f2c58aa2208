/- The set of all days of a range with an indiction, by the reference: year by year. Conditions: a kind; a range of days. -/
import Derived.Test.YtnoeakhhokbikaaIndDays
namespace Go.Proofs.Ytnoeakhhokbikaa
open Go.RowKit
theorem isps_snoc (k i a b : Int) : ∀ (n : Nat) (y : Int), isps k i a b (n + 1) y = isps k i a b n y ++ (if indY' (y + n) = i ∧ (isp k a b (y + n)).1 ≤ (isp k a b (y + n)).2 then [isp k a b (y + n)] else [])
  | 0, y => by
    simp only [isps]
    rw [show y + ((0 : Nat) : Int) = y from by omega]
    split <;> rfl
  | n + 1, y => by
    have ih := isps_snoc k i a b n (y + 1)
    rw [show y + 1 + (n : Int) = y + ((n + 1 : Nat) : Int) from by omega] at ih
    have e1 : isps k i a b (n + 1 + 1) y = if indY' y = i ∧ (isp k a b y).1 ≤ (isp k a b y).2 then isp k a b y :: isps k i a b (n + 1) (y + 1) else isps k i a b (n + 1) (y + 1) := rfl
    have e2 : isps k i a b (n + 1) y = if indY' y = i ∧ (isp k a b y).1 ≤ (isp k a b y).2 then isp k a b y :: isps k i a b n (y + 1) else isps k i a b n (y + 1) := rfl
    rw [e1, e2, ih]
    split <;> simp
theorem isps_bd (k i a b : Int) : ∀ (n : Nat) (y : Int), ∀ s ∈ isps k i a b n y, a ≤ s.1 ∧ s.1 ≤ s.2 ∧ s.2 ≤ b
  | 0, _, s, h => absurd h (by simp [isps])
  | n + 1, y, s, h => by
    unfold isps at h
    split at h
    · rename_i hc
      rcases List.mem_cons.1 h with rfl | h
      · refine ⟨?_, hc.2, ?_⟩
        · show a ≤ max a _; omega
        · show min b _ ≤ b; omega
      · exact isps_bd k i a b n (y + 1) s h
    · exact isps_bd k i a b n (y + 1) s h
set_option maxHeartbeats 400000 in
theorem s_num0 (d : Int) (w : World) (hd0 : 1 ≤ d) (hd1 : d ≤ 30) :
    Calls Try.prog 37 #[.agg #[.int .i64 0, .int .i64 9, .int .i64 d], .bool false] w fun e w' => e = .returned (.int .i64 (d - 122)) ∧ Below w.heap.size w w' := by
  go_enter Try.func37, Try.ntmps37
  go_wp2
  go_loop [6, 7] (fun n k => ∃ j : Int, 1 ≤ j ∧ j ≤ 9 ∧ k = .int .i64 j ∧ n = .int .i64 (cum 0 j + d - 366)) (fun _ k => (9 - intOf k).toNat)
  case atStart => exact ⟨1, by omega, by omega, rfl, by rw [cum_one]; go_num⟩
  case round =>
    obtain ⟨j, hj0, hj1, rfl, rfl⟩ := hrel
    have hc := cum_bd 0 j hj0 (by omega)
    have hl := mlen_bd 0 j
    have hs : cum 0 j + d - 366 + mlen 0 j = cum 0 (j + 1) + d - 366 := by rw [cum_succ 0 j hj0 (by omega)]; omega
    have HS := Lib.hid hs; clear hs
    obtain ⟨hb1, hb2⟩ := hc
    obtain ⟨hb3, hb4⟩ := hl
    by_cases hlt : j < 9
    · go_wp2_with (go_at_call 53; refine (s_mlen _ _ _ (by omega) (by omega)).mono ?_; rintro e w' ⟨rfl, rfl⟩)
      go_round
      case rel => exact ⟨j + 1, by omega, by omega, rfl, by rw [HS.out]⟩
      case measure => simp [intOf]; omega
    · obtain rfl : j = 9 := by omega
      have e : cum 0 9 + d - 366 = d - 122 := by
        have : cum 0 9 = 244 := by decide
        omega
      rw [e]
      go_wp2
      go_ret
      exact ⟨rfl, (Below.refl _ _).alloc (Nat.le_refl _) _⟩
theorem s_num9 (y d : Int) (w : World) (h0 : 0 ≤ y) (h1 : y ≤ 100000) (hd0 : 1 ≤ d) (hd1 : d ≤ 30) :
    Calls Try.prog 37 #[.agg #[.int .i64 y, .int .i64 9, .int .i64 d], .bool false] w fun e w' => (∃ N, e = .returned (.int .i64 N) ∧ (-1000 ≤ N ∧ N ≤ 100000000) ∧ ((1 ≤ y ∧ N = num y 9 d) ∨ (y = 0 ∧ N < 0))) ∧ Below w.heap.size w w' := by
  by_cases hy : y = 0
  · subst hy
    exact (s_num0 d w hd0 hd1).mono fun e w' ⟨he, hb⟩ => ⟨⟨_, he, ⟨by omega, by omega⟩, .inr ⟨rfl, by omega⟩⟩, hb⟩
  · have hb := num9_in y d hd0 hd1
    have hn := nyear_bd y (by omega) h1
    have hn2 := nyear_bd (y + 1)
    exact (s_num y 9 d w (by omega) h1 (by omega) (by omega) (by omega) (by omega)).mono fun e w' ⟨he, hb2⟩ => ⟨⟨_, he, ⟨by omega, by have := nyear_succ y; have := lp_01 y; omega⟩, .inl ⟨by omega, rfl⟩⟩, hb2⟩
theorem num_1231 (y : Int) : num y 12 31 = nyear (y + 1) - 1 := by
  rw [nyear_succ]
  unfold num
  have : cum y 12 = lp y + 334 := by simp [cum]
  omega
theorem num_11 (y : Int) : num y 1 1 = nyear y := by unfold num; rw [cum_one]; omega
set_option maxRecDepth 100000 in
set_option maxHeartbeats 4000000 in
theorem s_l08Set2 (i a b : Int) (w : World) (a0 : 0 ≤ a) (hab : a ≤ b) (b1 : b ≤ 730499) (hg : b - a ≤ 40000) : Calls Try.prog 25 #[.int .i64 2, .int .i64 i, .int .i64 a, .int .i64 b] w fun e w' => ∃ v, e = .returned v ∧ OwnP w' w.heap.size v (indSet 2 i a b) ∧ Below w.heap.size w w' := by
  have fd := fieldD0
  obtain ⟨ya0, ya1⟩ := yr_bd a a0 (by omega)
  obtain ⟨yb0, yb1⟩ := yr_bd b (by omega) b1
  have hyy : yr a ≤ yr b := by unfold yr; omega
  have hyg : yr b ≤ yr a + 110 := by unfold yr; omega
  have HS := Lib.hid (fun j => isps_snoc 2 i a b j (yr a))
  have HB := Lib.hid (fun j => isps_bd 2 i a b j (yr a))
  have HL := Lib.hid (fun j => (isps_ok 2 i a b j (yr a)).2.1)
  have HU := Lib.hid (show indSet 2 i a b = uni (isps 2 i a b (yr b - yr a + 2).toNat (yr a)) from rfl)
  have HE := Lib.hid (fun y => (⟨rfl, rfl⟩ : (isp 2 a b y).1 = max a (nyear y) ∧ (isp 2 a b y).2 = min b (nyear (y + 1) - 1)))
  have con := fun W => s_l01Old b W (by omega) b1
  obtain ⟨YA, hYA⟩ : ∃ x, yr a = x := ⟨_, rfl⟩
  obtain ⟨YB, hYB⟩ : ∃ x, yr b = x := ⟨_, rfl⟩
  have CA := Lib.hid (fun W => s_l01Old a W a0 (by omega))
  rw [hYA] at CA HS HB HL HU ya0 ya1 hyy hyg
  rw [hYB] at con HU yb0 yb1 hyy hyg
  have CON := Lib.hid con
  clear con hYA hYB
  go_enter Try.func25, Try.ntmps25
  go_wp2_with fail
  refine (CA.out _).mono ?_
  rintro e w0 ⟨rfl, hb⟩
  have V := (OwnP.lit0 w).below hb
  have L := below_step' (o := .cells #[] 51) (Below.refl _ _) hb (Nat.le_refl _)
  clear hb CA
  go_wp2_with fail
  go_loopw [9, 10] (fun o y wr => ∃ j : Nat, YA + j ≤ YB + 2 ∧ y = .int .i64 (YA + j) ∧ OwnP wr w.heap.size o (isps 2 i a b j YA) ∧ Below w.heap.size w wr) (fun _ y _ => (YB + 2 - intOf y).toNat)
  case atStart => exact ⟨0, by omega, by simp, V, L⟩
  case round =>
    clear V L
    obtain ⟨j, hj, rfl, V, L⟩ := hrel
    have hL := L.size
    by_cases hlt : YA + j ≤ YB + 1
    · have hcast : YA + ((j + 1 : Nat) : Int) = YA + j + 1 := by omega
      have HCAST := Lib.hid hcast
      have hs := HS.out j
      obtain ⟨E1, E2⟩ := HE.out (YA + j)
      have hll := HL.out j
      obtain ⟨y, hy⟩ : ∃ y, YA + (j : Int) = y := ⟨_, rfl⟩
      have hn1 := nyear_bd y (by omega) (by omega)
      have hn2 := nyear_bd (y + 1) (by omega) (by omega)
      have hc1 := num_11 y
      have hc2 := num_1231 y
      rw [hy] at hs E1 E2
      obtain ⟨I, hI⟩ : ∃ I, isp 2 a b y = I := ⟨_, rfl⟩
      rw [hI] at hs E1 E2
      obtain ⟨N1, hN1⟩ : ∃ x, nyear y = x := ⟨_, rfl⟩
      obtain ⟨N2, hN2⟩ : ∃ x, nyear (y + 1) = x := ⟨_, rfl⟩
      rw [hN1] at hn1 hc1 E1
      rw [hN2] at hn2 hc2 E2
      have hm1 : (if a < N1 then N1 else a) = max a N1 := by split <;> omega
      have hm2 : (if b < N2 - 1 then b else N2 - 1) = min b (N2 - 1) := by split <;> omega
      have hm3 : (if N2 - 1 < b then N2 - 1 else b) = min b (N2 - 1) := by split <;> omega
      clear hcast hI hN1 hN2
      rw [hy] at hlt hj HCAST ⊢
      go_wp2_with fail
      refine (CON.out _).mono ?_
      rintro e w1 ⟨rfl, hb⟩
      replace V := V.below hb
      replace L := L.trans (hb.mono hL)
      clear hb
      go_wp2_with fail
      refine (s_num y 1 1 _ (by omega) (by omega) (by omega) (by omega) (by omega) (by omega)).mono ?_
      rintro e w2 ⟨rfl, hb⟩
      replace V := V.below hb
      replace L := below_step L hb
      clear hb
      rw [hc1]
      go_wp2_with fail
      refine (s_num y 12 31 _ (by omega) (by omega) (by omega) (by omega) (by omega) (by omega)).mono ?_
      rintro e w3 ⟨rfl, hb⟩
      replace V := V.below hb
      replace L := below_step L hb
      clear hb
      rw [hc2]
      go_wp2_with fail
      have X := Blk.new w3 51 #[.int .i64 (max a N1), .int .i64 (min b (N2 - 1))]
      replace L := below_more L L.size (.cells #[.int .i64 (max a N1), .int .i64 (min b (N2 - 1))] 51)
      replace V := V.alloc (.cells #[.int .i64 (max a N1), .int .i64 (min b (N2 - 1))] 51)
      rw [← E1, ← E2] at X L V ⊢
      clear hm1 hm2 hm3 hn1 hn2 hc1 hc2
      obtain ⟨I1, I2⟩ := I
      dsimp only at X L V ⊢
      clear E1 E2
      refine (s_indiction y _ (by omega) (by omega)).mono ?_
      rintro e w4 ⟨rfl, hw4⟩
      have x0 := X.c0
      have x1 := X.c1
      have hx := X.lt
      rw [hw4] at x0 x1 hx V L
      clear hw4 X
      change isps 2 i a b (j + 1) YA = isps 2 i a b j YA ++ (if (y + 2) % 15 + 1 = i ∧ I1 ≤ I2 then [(I1, I2)] else []) at hs
      by_cases hc : (y + 2) % 15 + 1 = i
      · by_cases hle : I1 ≤ I2
        · rw [if_pos ⟨hc, hle⟩] at hs
          have HN := Lib.hid hs
          clear hs
          have hV := L.size
          go_wp2_with (at_builtin; refine wpList_appP rfl _ _ rfl _ _ _ _ _ _ rfl V _ rfl rfl (by omega) (by omega) ?_; intro v' w5 V2 hg2)
          go_roundw
          case rel => exact ⟨j + 1, by omega, by rw [HCAST.out], by rw [HN.out]; exact V2, V.below_grown L hg2 hV⟩
          case measure => simp [intOf]; omega
        · rw [if_neg (fun h => hle h.2), List.append_nil] at hs
          have HN := Lib.hid hs
          clear hs
          have hle' : I2 < I1 := by omega
          clear hle
          go_wp2_with fail
          go_roundw
          case rel => exact ⟨j + 1, by omega, by rw [HCAST.out], by rw [HN.out]; exact V, L⟩
          case measure => simp [intOf]; omega
      · rw [if_neg (fun h => hc h.1), List.append_nil] at hs
        have HN := Lib.hid hs
        clear hs
        go_wp2_with fail
        go_roundw
        case rel => exact ⟨j + 1, by omega, by rw [HCAST.out], by rw [HN.out]; exact V, L⟩
        case measure => simp [intOf]; omega
    · obtain rfl : j = (YB - YA + 2).toNat := by omega
      go_wp2_with fail
      refine (CON.out _).mono ?_
      rintro e w1 ⟨rfl, hb⟩
      replace V := V.below hb
      replace L := L.trans (hb.mono hL)
      clear hb
      have hll := HL.out (YB - YA + 2).toNat
      have hbd : ∀ s ∈ isps 2 i a b (YB - YA + 2).toNat YA, spB s := fun s h => by
        obtain ⟨q0, q1, q2⟩ := HB.out _ s h
        exact ⟨by omega, by omega, by omega, by omega⟩
      have MK := Lib.hid (s_Make w1 V (by omega) hbd)
      clear hbd V
      go_wp2_with fail
      refine MK.out.mono ?_
      rintro e w2 ⟨v', rfl, V2, hb⟩
      have hL1 := L.size
      go_wp2_with fail
      go_ret
      exact ⟨_, rfl, by rw [HU.out]; exact V2.mono hL1, below_step L hb⟩
end Go.Proofs.Ytnoeakhhokbikaa
