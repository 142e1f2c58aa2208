/- The year of a day in a style: the program's and the reference's functions return what the plain function says. Conditions: the bounds that stand in the theorems. -/
import Derived.Test.YtmpgokijlikddaaGreatDoorStyle
import Derived.Test.YtmpgokijlikddaaGreatDoorOld
import Derived.Test.YtmpgokijlikddaaGreatDoorDateOf
namespace Go.Proofs.YtmpgokijlikddaaGreatDoor
open Go.RowKit
def hit (s n y : Int) : Bool := inB y 2 1999 && inB n (beg s y) (beg s (y + 1) - 1)
def ysc (s n : Int) : Nat → Int → Int × Bool
  | 0, _ => (0, false)
  | k + 1, y => if hit s n y then (y, true) else ysc s n k (y + 1)
def yrOn (s n : Int) : Int × Bool := ysc s n 3 (yr n - 1)
theorem ysc_hit {s n y : Int} {k : Nat} (h1 : inB y 2 1999 = true) (h2 : inB n (beg s y) (beg s (y + 1) - 1) = true) : ysc s n (k + 1) y = (y, true) := by simp [ysc, hit, h1, h2]
theorem ysc_no1 {s n y : Int} {k : Nat} (h1 : inB y 2 1999 = false) : ysc s n (k + 1) y = ysc s n k (y + 1) := by simp [ysc, hit, h1]
theorem ysc_no2 {s n y : Int} {k : Nat} (h2 : inB n (beg s y) (beg s (y + 1) - 1) = false) : ysc s n (k + 1) y = ysc s n k (y + 1) := by simp [ysc, hit, h2]
theorem s_yrOn (s n : Int) (w : World) (hs : inB s 0 6 = true) (h0 : 0 ≤ n) (h1 : n ≤ 730499) : Calls Tryz.prog 155 #[.int .i64 s, .int .i64 n] w fun e w' => e = .returned (.tuple #[.int .i64 (yrOn s n).1, .bool (yrOn s n).2]) ∧ Below w.heap.size w w' := by
  obtain ⟨y0, y1⟩ := yr_bd n h0 h1
  have fd := fieldD0
  go_enter Tryz.func155, Tryz.ntmps155
  go_wp2_with fail
  refine (s_l01Old _ _ h0 h1).mono ?_
  rintro e w1 ⟨rfl, hb⟩
  go_wp2_with fail
  go_loopw [7] (fun v wr => ∃ (k : Nat) (y : Int), yr n + 2 ≤ y + k ∧ y + k ≤ yr n + 2 ∧ yr n - 1 ≤ y ∧ v = .int .i64 y ∧ ysc s n k y = yrOn s n ∧ Below w.heap.size w wr) (fun v _ => (yr n + 2 - intOf v).toNat)
  case atStart => exact ⟨3, yr n - 1, by omega, by omega, by omega, rfl, rfl, hb⟩
  case round =>
    obtain ⟨k, y, k0, k1, k2, rfl, hk, hB⟩ := hrel
    have HK := Lib.hid hk; clear hk
    clear hb
    have hw := hB.size
    cases k with
    | zero =>
      go_wp2_with fail
      go_ret2
      exact ⟨by rw [← HK.out]; rfl, hB⟩
    | succ k =>
      by_cases hy : inB y 2 1999 = true
      · obtain ⟨yy0, yy1⟩ := inB_iff.1 hy
        have g1 := beg_range s y yy0 (by omega)
        have g2 := beg_range s (y + 1) (by omega) (by omega)
        obtain ⟨g10, g11⟩ := g1
        obtain ⟨g20, g21⟩ := g2
        by_cases hn : inB n (beg s y) (beg s (y + 1) - 1) = true
        · go_wp2_with fail
          refine (toB (s_styear _ _) hy).mono ?_
          rintro e w2 ⟨rfl, rfl⟩
          go_wp2_with fail
          refine (s_beg _ _ _ hs yy0 (by omega)).mono ?_
          rintro e w3 ⟨rfl, hb3⟩
          go_wp2_with fail
          refine (s_beg _ _ _ hs (by omega) (by omega)).mono ?_
          rintro e w4 ⟨rfl, hb4⟩
          go_wp2_with fail
          refine (toB (s_in _ _ _ _) (by assumption)).mono ?_
          rintro e w5 ⟨rfl, rfl⟩
          go_wp2_with fail
          go_ret2
          exact ⟨by rw [← HK.out, ysc_hit hy hn]; rfl, hB.trans ((below_step hb3 hb4).mono hw)⟩
        · have hn' : inB n (beg s y) (beg s (y + 1) - 1) = false := by simpa using hn
          clear hn
          go_wp2_with fail
          refine (toB (s_styear _ _) hy).mono ?_
          rintro e w2 ⟨rfl, rfl⟩
          go_wp2_with fail
          refine (s_beg _ _ _ hs yy0 (by omega)).mono ?_
          rintro e w3 ⟨rfl, hb3⟩
          go_wp2_with fail
          refine (s_beg _ _ _ hs (by omega) (by omega)).mono ?_
          rintro e w4 ⟨rfl, hb4⟩
          go_wp2_with fail
          refine (toB (s_in _ _ _ _) (by assumption)).mono ?_
          rintro e w5 ⟨rfl, rfl⟩
          go_wp2_with fail
          go_roundw
          case rel => exact ⟨k, y + 1, by omega, by omega, by omega, rfl, by rw [← HK.out, ysc_no2 hn'], hB.trans ((below_step hb3 hb4).mono hw)⟩
          case measure => simp [intOf]; omega
      · have hy' : inB y 2 1999 = false := by simpa using hy
        clear hy
        go_wp2_with fail
        refine (toB (s_styear _ _) hy').mono ?_
        rintro e w2 ⟨rfl, rfl⟩
        go_wp2_with fail
        go_roundw
        case rel => exact ⟨k, y + 1, by omega, by omega, by omega, rfl, by rw [← HK.out, ysc_no1 hy'], hB⟩
        case measure => simp [intOf]; omega
theorem i_yrOn (s n : Int) (w : World) (hs : inB s 0 6 = true) (h0 : 0 ≤ n) (h1 : n ≤ 730499) : Calls Tryz.prog 167 #[.int .i64 s, .int .i64 n] w fun e w' => e = .returned (.tuple #[.int .i64 (yrOn s n).1, .bool (yrOn s n).2]) ∧ Below w.heap.size w w' := by
  obtain ⟨y0, y1⟩ := yr_bd n h0 h1
  have fd := fieldD0
  go_enter Tryz.func167, Tryz.ntmps167
  go_wp2_with fail
  refine (i_dateOf _ _ h0 h1).mono ?_
  rintro e w1 ⟨rfl, hb⟩
  go_wp2_with fail
  go_loopw [7] (fun v wr => ∃ (k : Nat) (y : Int), yr n + 2 ≤ y + k ∧ y + k ≤ yr n + 2 ∧ yr n - 1 ≤ y ∧ v = .int .i64 y ∧ ysc s n k y = yrOn s n ∧ Below w.heap.size w wr) (fun v _ => (yr n + 2 - intOf v).toNat)
  case atStart => exact ⟨3, yr n - 1, by omega, by omega, by omega, rfl, rfl, hb⟩
  case round =>
    obtain ⟨k, y, k0, k1, k2, rfl, hk, hB⟩ := hrel
    have HK := Lib.hid hk; clear hk
    clear hb
    have hw := hB.size
    cases k with
    | zero =>
      go_wp2_with fail
      go_ret2
      exact ⟨by rw [← HK.out]; rfl, hB⟩
    | succ k =>
      by_cases hy : inB y 2 1999 = true
      · obtain ⟨yy0, yy1⟩ := inB_iff.1 hy
        have g1 := beg_range s y yy0 (by omega)
        have g2 := beg_range s (y + 1) (by omega) (by omega)
        obtain ⟨g10, g11⟩ := g1
        obtain ⟨g20, g21⟩ := g2
        by_cases hn : inB n (beg s y) (beg s (y + 1) - 1) = true
        · go_wp2_with fail
          refine (toB (i_styear _ _) hy).mono ?_
          rintro e w2 ⟨rfl, rfl⟩
          go_wp2_with fail
          refine (i_span _ _ _ hs yy0 yy1).mono ?_
          rintro e w3 ⟨rfl, hb3⟩
          go_wp2_with fail
          refine (toB (i_in _ _ _ _) (by assumption)).mono ?_
          rintro e w5 ⟨rfl, rfl⟩
          go_wp2_with fail
          go_ret2
          exact ⟨by rw [← HK.out, ysc_hit hy hn]; rfl, below_more (hB.trans (hb3.mono hw)) (by have := hb3.size; omega) _⟩
        · have hn' : inB n (beg s y) (beg s (y + 1) - 1) = false := by simpa using hn
          clear hn
          go_wp2_with fail
          refine (toB (i_styear _ _) hy).mono ?_
          rintro e w2 ⟨rfl, rfl⟩
          go_wp2_with fail
          refine (i_span _ _ _ hs yy0 yy1).mono ?_
          rintro e w3 ⟨rfl, hb3⟩
          go_wp2_with fail
          refine (toB (i_in _ _ _ _) (by assumption)).mono ?_
          rintro e w5 ⟨rfl, rfl⟩
          go_wp2_with fail
          go_roundw
          case rel => exact ⟨k, y + 1, by omega, by omega, by omega, rfl, by rw [← HK.out, ysc_no2 hn'], below_more (hB.trans (hb3.mono hw)) (by have := hb3.size; omega) _⟩
          case measure => simp [intOf]; omega
      · have hy' : inB y 2 1999 = false := by simpa using hy
        clear hy
        go_wp2_with fail
        refine (toB (i_styear _ _) hy').mono ?_
        rintro e w2 ⟨rfl, rfl⟩
        go_wp2_with fail
        go_roundw
        case rel => exact ⟨k, y + 1, by omega, by omega, by omega, rfl, by rw [← HK.out, ysc_no1 hy'], hB⟩
        case measure => simp [intOf]; omega
def yrOnF (s n : Int) : Int × Int := if inB s 0 6 && inB n 0 730499 then (if (yrOn s n).2 then ((yrOn s n).1, 0) else (0, 4)) else (0, 2)
end Go.Proofs.YtmpgokijlikddaaGreatDoor
