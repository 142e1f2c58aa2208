/- The program's numeralOf returns the numeral that the plain function says. Condition: the number is 1 .. 3999. -/
import Derived.Test.YtmpgokijlikddaaGreatDoorNumer
import Derived.Test.YtmpgokijlikddaaGreatDoorBlk
import Derived.Test.YtmpgokijlikddaaGreatDoorShelf
namespace Go.Proofs.YtmpgokijlikddaaGreatDoor
open Go.RowKit
theorem repL (a : UInt8) (n : Nat) : Lib.repeatL [a] n = List.replicate n a := by
  induction n with
  | zero => rfl
  | succ n ih => simp only [Lib.repeatL] at ih ⊢; simp [List.replicate_succ, ih]
theorem i_rep (a : UInt8) (d : Int) (w : World) (h0 : 0 ≤ d) (h1 : d ≤ 100) : Calls Tryz.prog 176 #[.string ⟨#[a]⟩, .int .i64 d] w fun e w' => e = .returned (.string ⟨(List.replicate d.toNat a).toArray⟩) ∧ Below w.heap.size w w' := by
  obtain ⟨n, rfl⟩ : ∃ n : Nat, d = n := ⟨d.toNat, by omega⟩
  refine (Tryz.strings_Repeat ⟨#[a]⟩ n w (by omega) ?_).mono fun e w' h => ⟨?_, h.2⟩
  · have : (⟨#[a]⟩ : ByteArray).size = 1 := rfl
    rw [this]; omega
  · rw [h.1]
    have : (⟨#[a]⟩ : ByteArray).data.toList = [a] := rfl
    rw [this, repL]; rfl
def acc (m x1 x2 x3 : List UInt8) : Nat → List UInt8
  | 0 => m
  | 1 => m ++ x1
  | 2 => m ++ x1 ++ x2
  | _ => m ++ x1 ++ x2 ++ x3
def rp (d : Int) (a : UInt8) : List UInt8 := List.replicate d.toNat a
theorem i_rp (a : UInt8) (d : Int) (w : World) (h0 : 0 ≤ d) (h1 : d ≤ 100) : Calls Tryz.prog 176 #[.string ⟨#[a]⟩, .int .i64 d] w fun e w' => e = .returned (.string ⟨(rp d a).toArray⟩) ∧ Below w.heap.size w w' := i_rep a d w h0 h1
theorem rp_len (d : Int) (a : UInt8) (h : d ≤ 9) : (rp d a).length ≤ 9 := by unfold rp; simp; omega
theorem dig4 (a b c : UInt8) : digL 4 a b c false = [a] ++ [b] := rfl
theorem dig9 (a b c : UInt8) : digL 9 a b c false = [a] ++ [c] := rfl
theorem digHi (d : Int) (a b c : UInt8) (old : Bool) (h : 5 ≤ d) (h9 : d ≠ 9 ∨ old = true) : digL d a b c old = [b] ++ rp (d - 5) a := by
  rw [digL_T (by rcases h9 with h9 | h9; exact .inl ⟨by omega, h9⟩; exact .inr h9)]; unfold digT rp; rw [if_pos h]; rfl
theorem digLo (d : Int) (a b c : UInt8) (old : Bool) (h : d < 5) (h4 : d ≠ 4 ∨ old = true) : digL d a b c old = rp d a := by
  rw [digL_T (by rcases h4 with h4 | h4; exact .inl ⟨h4, by omega⟩; exact .inr h4)]; unfold digT rp; rw [if_neg (by omega)]
set_option maxHeartbeats 8000000 in
theorem i_numForm_F (n : Int) (w : World) (h0 : 1 ≤ n) (h1 : n ≤ 3999) : Calls Tryz.prog 110 #[.int .i64 n, .bool false] w fun e w' => e = .returned (.string ⟨(formL n false).toArray⟩) ∧ Below w.heap.size w w' := by
  have hF : formL n false = acc (rp (n / 1000) 109) (digL (n / 100 % 10) 99 100 109 false) (digL (n / 10 % 10) 120 108 99 false) (digL (n % 10) 105 118 120 false) 3 := rfl
  have q0 : 0 ≤ n / 1000 := by omega
  have q1 : n / 1000 ≤ 9 := by omega
  have d10 : 0 ≤ n / 100 % 10 := by omega
  have d11 : n / 100 % 10 ≤ 9 := by omega
  have d20 : 0 ≤ n / 10 % 10 := by omega
  have d21 : n / 10 % 10 ≤ 9 := by omega
  have d30 : 0 ≤ n % 10 := by omega
  have d31 : n % 10 ≤ 9 := by omega
  have l1 := digL_len (n / 100 % 10) 99 100 109 false (by omega)
  have l2 := digL_len (n / 10 % 10) 120 108 99 false (by omega)
  have l3 := digL_len (n % 10) 105 118 120 false (by omega)
  have l0 := rp_len (n / 1000) 109 q1
  obtain ⟨x1, e1⟩ : ∃ x, digL (n / 100 % 10) 99 100 109 false = x := ⟨_, rfl⟩
  obtain ⟨x2, e2⟩ : ∃ x, digL (n / 10 % 10) 120 108 99 false = x := ⟨_, rfl⟩
  obtain ⟨x3, e3⟩ : ∃ x, digL (n % 10) 105 118 120 false = x := ⟨_, rfl⟩
  obtain ⟨m, em⟩ : ∃ x, rp (n / 1000) 109 = x := ⟨_, rfl⟩
  have con := fun W : World => i_rp 109 (n / 1000) W q0 (by omega)
  rw [em, e1, e2, e3] at hF
  rw [e1] at l1
  rw [e2] at l2
  rw [e3] at l3
  rw [em] at l0
  simp only [em] at con
  rw [hF]; clear hF em
  have CON := Lib.hid con; clear con
  have E1 := Lib.hid e1; clear e1
  have E2 := Lib.hid e2; clear e2
  have E3 := Lib.hid e3; clear e3
  go_enter Tryz.func110, Tryz.ntmps110
  go_wp2_with fail
  refine (CON.out _).mono ?_
  rintro e w1 ⟨rfl, hb1⟩
  go_wp2_with fail
  go_loopw [5, 17] (fun s k wr => ∃ j : Int, 0 ≤ j ∧ j ≤ 3 ∧ k = .int .i64 j ∧ s = .string ⟨(acc m x1 x2 x3 j.toNat).toArray⟩ ∧ Blk wr w1.heap.size 9 #[.string ⟨#[99, 100, 109]⟩, .string ⟨#[120, 108, 99]⟩, .string ⟨#[105, 118, 120]⟩] ∧ Below w.heap.size w wr) (fun _ k _ => 3 - (intOf k).toNat)
  case atStart => exact ⟨0, by omega, by omega, rfl, rfl, Blk.new _ _ _, below_more hb1 hb1.size _⟩
  case round =>
    obtain ⟨j, hj0, hj, rfl, rfl, hblk, hB⟩ := hrel
    clear hb1
    have hw := hB.size
    have hG := hblk.lt
    have k0 := hblk.c0
    have k1 := hblk.c1
    have k2 := hblk.c2
    rcases (show j = 0 ∨ j = 1 ∨ j = 2 ∨ j = 3 by omega) with rfl | rfl | rfl | rfl
    · have EE := E1.out
      obtain ⟨p, hp⟩ : ∃ p, acc m x1 x2 x3 (0 : Int).toNat = p := ⟨_, rfl⟩
      have hpl : p.length ≤ 19 := by rw [← hp]; show (acc m x1 x2 x3 0).length ≤ 19; simp [acc]; omega
      have hnext : acc m x1 x2 x3 (1 : Int).toNat = p ++ x1 := by rw [← hp]; rfl
      rw [hp]
      clear hp
      have HN := Lib.hid hnext; clear hnext
      by_cases h4 : n / 100 % 10 = 4
      · have b4 : (n / 100 % 10 == 4) = true := by simp [h4]
        rw [h4, dig4] at EE
        have HX := Lib.hid EE; clear EE h4
        go_wp2_with fail
        go_quiet (fail)
        replace hblk := hblk.drewN nq
        replace hB := below_drewN hB nq
        clear hw hG k0 k1 k2
        generalize wr.drewN nq = ws at *
        have hw := hB.size
        have hG := hblk.lt
        have s1 : (⟨#[99, 100, 109]⟩ : ByteArray).extract 0 1 = ⟨#[99]⟩ := by rfl
        have s2 : (⟨#[99, 100, 109]⟩ : ByteArray).extract 1 2 = ⟨#[100]⟩ := by rfl
        have s3 : (⟨#[99, 100, 109]⟩ : ByteArray).extract 2 3 = ⟨#[109]⟩ := by rfl
        go_wp2_with fail
        go_roundw
        case rel => exact ⟨1, by omega, by omega, rfl, by rw [HN.out, ← HX.out, ← bcat, ← bcat], hblk.alloc _, below_more hB hw _⟩
        case measure => simp [intOf]
      · have b4 : (n / 100 % 10 == 4) = false := by simpa using h4
        by_cases h9 : n / 100 % 10 = 9
        · have b9 : (n / 100 % 10 == 9) = true := by simp [h9]
          rw [h9, dig9] at EE
          have HX := Lib.hid EE; clear EE h4 h9
          go_wp2_with fail
          go_quiet (fail)
          replace hblk := hblk.drewN nq
          replace hB := below_drewN hB nq
          clear hw hG k0 k1 k2
          generalize wr.drewN nq = ws at *
          have hw := hB.size
          have hG := hblk.lt
          have s1 : (⟨#[99, 100, 109]⟩ : ByteArray).extract 0 1 = ⟨#[99]⟩ := by rfl
          have s2 : (⟨#[99, 100, 109]⟩ : ByteArray).extract 1 2 = ⟨#[100]⟩ := by rfl
          have s3 : (⟨#[99, 100, 109]⟩ : ByteArray).extract 2 3 = ⟨#[109]⟩ := by rfl
          go_wp2_with fail
          go_roundw
          case rel => exact ⟨1, by omega, by omega, rfl, by rw [HN.out, ← HX.out, ← bcat, ← bcat], hblk.alloc _, below_more hB hw _⟩
          case measure => simp [intOf]
        · have b9 : (n / 100 % 10 == 9) = false := by simpa using h9
          by_cases h5 : 5 ≤ n / 100 % 10
          · rw [digHi _ _ _ _ _ h5 (.inl h9)] at EE
            have HX := Lib.hid EE; clear EE h4 h9
            go_wp2_with fail
            go_quiet (fail)
            replace hblk := hblk.drewN nq
            replace hB := below_drewN hB nq
            clear hw hG k0 k1 k2
            generalize wr.drewN nq = ws at *
            have hw := hB.size
            have hG := hblk.lt
            have s1 : (⟨#[99, 100, 109]⟩ : ByteArray).extract 0 1 = ⟨#[99]⟩ := by rfl
            have s2 : (⟨#[99, 100, 109]⟩ : ByteArray).extract 1 2 = ⟨#[100]⟩ := by rfl
            have s3 : (⟨#[99, 100, 109]⟩ : ByteArray).extract 2 3 = ⟨#[109]⟩ := by rfl
            go_wp2_with fail
            refine (i_rp 99 (n / 100 % 10 - 5) _ (by omega) (by omega)).mono ?_
            rintro e w3 ⟨rfl, hb3⟩
            have hr := rp_len (n / 100 % 10 - 5) 99 (by omega)
            have hblk3 := (hblk.alloc (.cells #[.int .i64 100, .int .i64 10, .int .i64 1] 2)).below hb3 (by simp; omega)
            have hB3 := below_step' hB hb3
            clear hb3
            go_wp2_with fail
            go_roundw
            case rel => exact ⟨1, by omega, by omega, rfl, by rw [HN.out, ← HX.out, ← bcat, ← bcat], hblk3, hB3⟩
            case measure => simp [intOf]
          · have h5' : n / 100 % 10 < 5 := by omega
            rw [digLo _ _ _ _ _ (by omega) (.inl h4)] at EE
            have HX := Lib.hid EE; clear EE h4 h9 h5
            go_wp2_with fail
            go_quiet (fail)
            replace hblk := hblk.drewN nq
            replace hB := below_drewN hB nq
            clear hw hG k0 k1 k2
            generalize wr.drewN nq = ws at *
            have hw := hB.size
            have hG := hblk.lt
            have s1 : (⟨#[99, 100, 109]⟩ : ByteArray).extract 0 1 = ⟨#[99]⟩ := by rfl
            have s2 : (⟨#[99, 100, 109]⟩ : ByteArray).extract 1 2 = ⟨#[100]⟩ := by rfl
            have s3 : (⟨#[99, 100, 109]⟩ : ByteArray).extract 2 3 = ⟨#[109]⟩ := by rfl
            go_wp2_with fail
            refine (i_rp 99 (n / 100 % 10) _ (by omega) (by omega)).mono ?_
            rintro e w3 ⟨rfl, hb3⟩
            have hr := rp_len (n / 100 % 10) 99 (by omega)
            have hblk3 := (hblk.alloc (.cells #[.int .i64 100, .int .i64 10, .int .i64 1] 2)).below hb3 (by simp; omega)
            have hB3 := below_step' hB hb3
            clear hb3
            go_wp2_with fail
            go_roundw
            case rel => exact ⟨1, by omega, by omega, rfl, by rw [HN.out, ← HX.out, ← bcat], hblk3, hB3⟩
            case measure => simp [intOf]
    · have EE := E2.out
      obtain ⟨p, hp⟩ : ∃ p, acc m x1 x2 x3 (1 : Int).toNat = p := ⟨_, rfl⟩
      have hpl : p.length ≤ 19 := by rw [← hp]; show (acc m x1 x2 x3 1).length ≤ 19; simp [acc]; omega
      have hnext : acc m x1 x2 x3 (2 : Int).toNat = p ++ x2 := by rw [← hp]; rfl
      rw [hp]
      clear hp
      have HN := Lib.hid hnext; clear hnext
      by_cases h4 : n / 10 % 10 = 4
      · have b4 : (n / 10 % 10 == 4) = true := by simp [h4]
        rw [h4, dig4] at EE
        have HX := Lib.hid EE; clear EE h4
        go_wp2_with fail
        go_quiet (fail)
        replace hblk := hblk.drewN nq
        replace hB := below_drewN hB nq
        clear hw hG k0 k1 k2
        generalize wr.drewN nq = ws at *
        have hw := hB.size
        have hG := hblk.lt
        have s1 : (⟨#[120, 108, 99]⟩ : ByteArray).extract 0 1 = ⟨#[120]⟩ := by rfl
        have s2 : (⟨#[120, 108, 99]⟩ : ByteArray).extract 1 2 = ⟨#[108]⟩ := by rfl
        have s3 : (⟨#[120, 108, 99]⟩ : ByteArray).extract 2 3 = ⟨#[99]⟩ := by rfl
        go_wp2_with fail
        go_roundw
        case rel => exact ⟨2, by omega, by omega, rfl, by rw [HN.out, ← HX.out, ← bcat, ← bcat], hblk.alloc _, below_more hB hw _⟩
        case measure => simp [intOf]
      · have b4 : (n / 10 % 10 == 4) = false := by simpa using h4
        by_cases h9 : n / 10 % 10 = 9
        · have b9 : (n / 10 % 10 == 9) = true := by simp [h9]
          rw [h9, dig9] at EE
          have HX := Lib.hid EE; clear EE h4 h9
          go_wp2_with fail
          go_quiet (fail)
          replace hblk := hblk.drewN nq
          replace hB := below_drewN hB nq
          clear hw hG k0 k1 k2
          generalize wr.drewN nq = ws at *
          have hw := hB.size
          have hG := hblk.lt
          have s1 : (⟨#[120, 108, 99]⟩ : ByteArray).extract 0 1 = ⟨#[120]⟩ := by rfl
          have s2 : (⟨#[120, 108, 99]⟩ : ByteArray).extract 1 2 = ⟨#[108]⟩ := by rfl
          have s3 : (⟨#[120, 108, 99]⟩ : ByteArray).extract 2 3 = ⟨#[99]⟩ := by rfl
          go_wp2_with fail
          go_roundw
          case rel => exact ⟨2, by omega, by omega, rfl, by rw [HN.out, ← HX.out, ← bcat, ← bcat], hblk.alloc _, below_more hB hw _⟩
          case measure => simp [intOf]
        · have b9 : (n / 10 % 10 == 9) = false := by simpa using h9
          by_cases h5 : 5 ≤ n / 10 % 10
          · rw [digHi _ _ _ _ _ h5 (.inl h9)] at EE
            have HX := Lib.hid EE; clear EE h4 h9
            go_wp2_with fail
            go_quiet (fail)
            replace hblk := hblk.drewN nq
            replace hB := below_drewN hB nq
            clear hw hG k0 k1 k2
            generalize wr.drewN nq = ws at *
            have hw := hB.size
            have hG := hblk.lt
            have s1 : (⟨#[120, 108, 99]⟩ : ByteArray).extract 0 1 = ⟨#[120]⟩ := by rfl
            have s2 : (⟨#[120, 108, 99]⟩ : ByteArray).extract 1 2 = ⟨#[108]⟩ := by rfl
            have s3 : (⟨#[120, 108, 99]⟩ : ByteArray).extract 2 3 = ⟨#[99]⟩ := by rfl
            go_wp2_with fail
            refine (i_rp 120 (n / 10 % 10 - 5) _ (by omega) (by omega)).mono ?_
            rintro e w3 ⟨rfl, hb3⟩
            have hr := rp_len (n / 10 % 10 - 5) 120 (by omega)
            have hblk3 := (hblk.alloc (.cells #[.int .i64 100, .int .i64 10, .int .i64 1] 2)).below hb3 (by simp; omega)
            have hB3 := below_step' hB hb3
            clear hb3
            go_wp2_with fail
            go_roundw
            case rel => exact ⟨2, by omega, by omega, rfl, by rw [HN.out, ← HX.out, ← bcat, ← bcat], hblk3, hB3⟩
            case measure => simp [intOf]
          · have h5' : n / 10 % 10 < 5 := by omega
            rw [digLo _ _ _ _ _ (by omega) (.inl h4)] at EE
            have HX := Lib.hid EE; clear EE h4 h9 h5
            go_wp2_with fail
            go_quiet (fail)
            replace hblk := hblk.drewN nq
            replace hB := below_drewN hB nq
            clear hw hG k0 k1 k2
            generalize wr.drewN nq = ws at *
            have hw := hB.size
            have hG := hblk.lt
            have s1 : (⟨#[120, 108, 99]⟩ : ByteArray).extract 0 1 = ⟨#[120]⟩ := by rfl
            have s2 : (⟨#[120, 108, 99]⟩ : ByteArray).extract 1 2 = ⟨#[108]⟩ := by rfl
            have s3 : (⟨#[120, 108, 99]⟩ : ByteArray).extract 2 3 = ⟨#[99]⟩ := by rfl
            go_wp2_with fail
            refine (i_rp 120 (n / 10 % 10) _ (by omega) (by omega)).mono ?_
            rintro e w3 ⟨rfl, hb3⟩
            have hr := rp_len (n / 10 % 10) 120 (by omega)
            have hblk3 := (hblk.alloc (.cells #[.int .i64 100, .int .i64 10, .int .i64 1] 2)).below hb3 (by simp; omega)
            have hB3 := below_step' hB hb3
            clear hb3
            go_wp2_with fail
            go_roundw
            case rel => exact ⟨2, by omega, by omega, rfl, by rw [HN.out, ← HX.out, ← bcat], hblk3, hB3⟩
            case measure => simp [intOf]
    · have EE := E3.out
      obtain ⟨p, hp⟩ : ∃ p, acc m x1 x2 x3 (2 : Int).toNat = p := ⟨_, rfl⟩
      have hpl : p.length ≤ 19 := by rw [← hp]; show (acc m x1 x2 x3 2).length ≤ 19; simp [acc]; omega
      have hnext : acc m x1 x2 x3 (3 : Int).toNat = p ++ x3 := by rw [← hp]; rfl
      rw [hp]
      clear hp
      have HN := Lib.hid hnext; clear hnext
      by_cases h4 : n % 10 = 4
      · have b4 : (n % 10 == 4) = true := by simp [h4]
        rw [h4, dig4] at EE
        have HX := Lib.hid EE; clear EE h4
        go_wp2_with fail
        go_quiet (fail)
        replace hblk := hblk.drewN nq
        replace hB := below_drewN hB nq
        clear hw hG k0 k1 k2
        generalize wr.drewN nq = ws at *
        have hw := hB.size
        have hG := hblk.lt
        have s1 : (⟨#[105, 118, 120]⟩ : ByteArray).extract 0 1 = ⟨#[105]⟩ := by rfl
        have s2 : (⟨#[105, 118, 120]⟩ : ByteArray).extract 1 2 = ⟨#[118]⟩ := by rfl
        have s3 : (⟨#[105, 118, 120]⟩ : ByteArray).extract 2 3 = ⟨#[120]⟩ := by rfl
        go_wp2_with fail
        go_roundw
        case rel => exact ⟨3, by omega, by omega, rfl, by rw [HN.out, ← HX.out, ← bcat, ← bcat], hblk.alloc _, below_more hB hw _⟩
        case measure => simp [intOf]
      · have b4 : (n % 10 == 4) = false := by simpa using h4
        by_cases h9 : n % 10 = 9
        · have b9 : (n % 10 == 9) = true := by simp [h9]
          rw [h9, dig9] at EE
          have HX := Lib.hid EE; clear EE h4 h9
          go_wp2_with fail
          go_quiet (fail)
          replace hblk := hblk.drewN nq
          replace hB := below_drewN hB nq
          clear hw hG k0 k1 k2
          generalize wr.drewN nq = ws at *
          have hw := hB.size
          have hG := hblk.lt
          have s1 : (⟨#[105, 118, 120]⟩ : ByteArray).extract 0 1 = ⟨#[105]⟩ := by rfl
          have s2 : (⟨#[105, 118, 120]⟩ : ByteArray).extract 1 2 = ⟨#[118]⟩ := by rfl
          have s3 : (⟨#[105, 118, 120]⟩ : ByteArray).extract 2 3 = ⟨#[120]⟩ := by rfl
          go_wp2_with fail
          go_roundw
          case rel => exact ⟨3, by omega, by omega, rfl, by rw [HN.out, ← HX.out, ← bcat, ← bcat], hblk.alloc _, below_more hB hw _⟩
          case measure => simp [intOf]
        · have b9 : (n % 10 == 9) = false := by simpa using h9
          by_cases h5 : 5 ≤ n % 10
          · rw [digHi _ _ _ _ _ h5 (.inl h9)] at EE
            have HX := Lib.hid EE; clear EE h4 h9
            go_wp2_with fail
            go_quiet (fail)
            replace hblk := hblk.drewN nq
            replace hB := below_drewN hB nq
            clear hw hG k0 k1 k2
            generalize wr.drewN nq = ws at *
            have hw := hB.size
            have hG := hblk.lt
            have s1 : (⟨#[105, 118, 120]⟩ : ByteArray).extract 0 1 = ⟨#[105]⟩ := by rfl
            have s2 : (⟨#[105, 118, 120]⟩ : ByteArray).extract 1 2 = ⟨#[118]⟩ := by rfl
            have s3 : (⟨#[105, 118, 120]⟩ : ByteArray).extract 2 3 = ⟨#[120]⟩ := by rfl
            go_wp2_with fail
            refine (i_rp 105 (n % 10 - 5) _ (by omega) (by omega)).mono ?_
            rintro e w3 ⟨rfl, hb3⟩
            have hr := rp_len (n % 10 - 5) 105 (by omega)
            have hblk3 := (hblk.alloc (.cells #[.int .i64 100, .int .i64 10, .int .i64 1] 2)).below hb3 (by simp; omega)
            have hB3 := below_step' hB hb3
            clear hb3
            go_wp2_with fail
            go_roundw
            case rel => exact ⟨3, by omega, by omega, rfl, by rw [HN.out, ← HX.out, ← bcat, ← bcat], hblk3, hB3⟩
            case measure => simp [intOf]
          · have h5' : n % 10 < 5 := by omega
            rw [digLo _ _ _ _ _ (by omega) (.inl h4)] at EE
            have HX := Lib.hid EE; clear EE h4 h9 h5
            go_wp2_with fail
            go_quiet (fail)
            replace hblk := hblk.drewN nq
            replace hB := below_drewN hB nq
            clear hw hG k0 k1 k2
            generalize wr.drewN nq = ws at *
            have hw := hB.size
            have hG := hblk.lt
            have s1 : (⟨#[105, 118, 120]⟩ : ByteArray).extract 0 1 = ⟨#[105]⟩ := by rfl
            have s2 : (⟨#[105, 118, 120]⟩ : ByteArray).extract 1 2 = ⟨#[118]⟩ := by rfl
            have s3 : (⟨#[105, 118, 120]⟩ : ByteArray).extract 2 3 = ⟨#[120]⟩ := by rfl
            go_wp2_with fail
            refine (i_rp 105 (n % 10) _ (by omega) (by omega)).mono ?_
            rintro e w3 ⟨rfl, hb3⟩
            have hr := rp_len (n % 10) 105 (by omega)
            have hblk3 := (hblk.alloc (.cells #[.int .i64 100, .int .i64 10, .int .i64 1] 2)).below hb3 (by simp; omega)
            have hB3 := below_step' hB hb3
            clear hb3
            go_wp2_with fail
            go_roundw
            case rel => exact ⟨3, by omega, by omega, rfl, by rw [HN.out, ← HX.out, ← bcat], hblk3, hB3⟩
            case measure => simp [intOf]
    · go_wp2_with fail
      go_ret
      exact ⟨rfl, hB⟩
set_option maxHeartbeats 8000000 in
theorem i_numForm_T (n : Int) (w : World) (h0 : 1 ≤ n) (h1 : n ≤ 3999) : Calls Tryz.prog 110 #[.int .i64 n, .bool true] w fun e w' => e = .returned (.string ⟨(formL n true).toArray⟩) ∧ Below w.heap.size w w' := by
  have hF : formL n true = acc (rp (n / 1000) 109) (digL (n / 100 % 10) 99 100 109 true) (digL (n / 10 % 10) 120 108 99 true) (digL (n % 10) 105 118 120 true) 3 := rfl
  have q0 : 0 ≤ n / 1000 := by omega
  have q1 : n / 1000 ≤ 9 := by omega
  have d10 : 0 ≤ n / 100 % 10 := by omega
  have d11 : n / 100 % 10 ≤ 9 := by omega
  have d20 : 0 ≤ n / 10 % 10 := by omega
  have d21 : n / 10 % 10 ≤ 9 := by omega
  have d30 : 0 ≤ n % 10 := by omega
  have d31 : n % 10 ≤ 9 := by omega
  have l1 := digL_len (n / 100 % 10) 99 100 109 true (by omega)
  have l2 := digL_len (n / 10 % 10) 120 108 99 true (by omega)
  have l3 := digL_len (n % 10) 105 118 120 true (by omega)
  have l0 := rp_len (n / 1000) 109 q1
  obtain ⟨x1, e1⟩ : ∃ x, digL (n / 100 % 10) 99 100 109 true = x := ⟨_, rfl⟩
  obtain ⟨x2, e2⟩ : ∃ x, digL (n / 10 % 10) 120 108 99 true = x := ⟨_, rfl⟩
  obtain ⟨x3, e3⟩ : ∃ x, digL (n % 10) 105 118 120 true = x := ⟨_, rfl⟩
  obtain ⟨m, em⟩ : ∃ x, rp (n / 1000) 109 = x := ⟨_, rfl⟩
  have con := fun W : World => i_rp 109 (n / 1000) W q0 (by omega)
  rw [em, e1, e2, e3] at hF
  rw [e1] at l1
  rw [e2] at l2
  rw [e3] at l3
  rw [em] at l0
  simp only [em] at con
  rw [hF]; clear hF em
  have CON := Lib.hid con; clear con
  have E1 := Lib.hid e1; clear e1
  have E2 := Lib.hid e2; clear e2
  have E3 := Lib.hid e3; clear e3
  go_enter Tryz.func110, Tryz.ntmps110
  go_wp2_with fail
  refine (CON.out _).mono ?_
  rintro e w1 ⟨rfl, hb1⟩
  go_wp2_with fail
  go_loopw [5, 17] (fun s k wr => ∃ j : Int, 0 ≤ j ∧ j ≤ 3 ∧ k = .int .i64 j ∧ s = .string ⟨(acc m x1 x2 x3 j.toNat).toArray⟩ ∧ Blk wr w1.heap.size 9 #[.string ⟨#[99, 100, 109]⟩, .string ⟨#[120, 108, 99]⟩, .string ⟨#[105, 118, 120]⟩] ∧ Below w.heap.size w wr) (fun _ k _ => 3 - (intOf k).toNat)
  case atStart => exact ⟨0, by omega, by omega, rfl, rfl, Blk.new _ _ _, below_more hb1 hb1.size _⟩
  case round =>
    obtain ⟨j, hj0, hj, rfl, rfl, hblk, hB⟩ := hrel
    clear hb1
    have hw := hB.size
    have hG := hblk.lt
    have k0 := hblk.c0
    have k1 := hblk.c1
    have k2 := hblk.c2
    rcases (show j = 0 ∨ j = 1 ∨ j = 2 ∨ j = 3 by omega) with rfl | rfl | rfl | rfl
    · have EE := E1.out
      obtain ⟨p, hp⟩ : ∃ p, acc m x1 x2 x3 (0 : Int).toNat = p := ⟨_, rfl⟩
      have hpl : p.length ≤ 19 := by rw [← hp]; show (acc m x1 x2 x3 0).length ≤ 19; simp [acc]; omega
      have hnext : acc m x1 x2 x3 (1 : Int).toNat = p ++ x1 := by rw [← hp]; rfl
      rw [hp]
      clear hp
      have HN := Lib.hid hnext; clear hnext
      by_cases h4 : n / 100 % 10 = 4
      · have b4 : (n / 100 % 10 == 4) = true := by simp [h4]
        rw [digLo _ _ _ _ _ (by omega) (.inr rfl)] at EE
        have h5 : n / 100 % 10 < 5 := by omega
        have HX := Lib.hid EE; clear EE h4
        go_wp2_with fail
        go_quiet (fail)
        replace hblk := hblk.drewN nq
        replace hB := below_drewN hB nq
        clear hw hG k0 k1 k2
        generalize wr.drewN nq = ws at *
        have hw := hB.size
        have hG := hblk.lt
        have s1 : (⟨#[99, 100, 109]⟩ : ByteArray).extract 0 1 = ⟨#[99]⟩ := by rfl
        have s2 : (⟨#[99, 100, 109]⟩ : ByteArray).extract 1 2 = ⟨#[100]⟩ := by rfl
        have s3 : (⟨#[99, 100, 109]⟩ : ByteArray).extract 2 3 = ⟨#[109]⟩ := by rfl
        go_wp2_with fail
        refine (i_rp 99 (n / 100 % 10) _ (by omega) (by omega)).mono ?_
        rintro e w3 ⟨rfl, hb3⟩
        have hr := rp_len (n / 100 % 10) 99 (by omega)
        have hblk3 := (hblk.alloc (.cells #[.int .i64 100, .int .i64 10, .int .i64 1] 2)).below hb3 (by simp; omega)
        have hB3 := below_step' hB hb3
        clear hb3
        go_wp2_with fail
        go_roundw
        case rel => exact ⟨1, by omega, by omega, rfl, by rw [HN.out, ← HX.out, ← bcat], hblk3, hB3⟩
        case measure => simp [intOf]
      · have b4 : (n / 100 % 10 == 4) = false := by simpa using h4
        by_cases h9 : n / 100 % 10 = 9
        · have b9 : (n / 100 % 10 == 9) = true := by simp [h9]
          rw [digHi _ _ _ _ _ (by omega) (.inr rfl)] at EE
          have h5 : 5 ≤ n / 100 % 10 := by omega
          have HX := Lib.hid EE; clear EE h4 h9
          go_wp2_with fail
          go_quiet (fail)
          replace hblk := hblk.drewN nq
          replace hB := below_drewN hB nq
          clear hw hG k0 k1 k2
          generalize wr.drewN nq = ws at *
          have hw := hB.size
          have hG := hblk.lt
          have s1 : (⟨#[99, 100, 109]⟩ : ByteArray).extract 0 1 = ⟨#[99]⟩ := by rfl
          have s2 : (⟨#[99, 100, 109]⟩ : ByteArray).extract 1 2 = ⟨#[100]⟩ := by rfl
          have s3 : (⟨#[99, 100, 109]⟩ : ByteArray).extract 2 3 = ⟨#[109]⟩ := by rfl
          go_wp2_with fail
          refine (i_rp 99 (n / 100 % 10 - 5) _ (by omega) (by omega)).mono ?_
          rintro e w3 ⟨rfl, hb3⟩
          have hr := rp_len (n / 100 % 10 - 5) 99 (by omega)
          have hblk3 := (hblk.alloc (.cells #[.int .i64 100, .int .i64 10, .int .i64 1] 2)).below hb3 (by simp; omega)
          have hB3 := below_step' hB hb3
          clear hb3
          go_wp2_with fail
          go_roundw
          case rel => exact ⟨1, by omega, by omega, rfl, by rw [HN.out, ← HX.out, ← bcat, ← bcat], hblk3, hB3⟩
          case measure => simp [intOf]
        · have b9 : (n / 100 % 10 == 9) = false := by simpa using h9
          by_cases h5 : 5 ≤ n / 100 % 10
          · rw [digHi _ _ _ _ _ h5 (.inl h9)] at EE
            have HX := Lib.hid EE; clear EE h4 h9
            go_wp2_with fail
            go_quiet (fail)
            replace hblk := hblk.drewN nq
            replace hB := below_drewN hB nq
            clear hw hG k0 k1 k2
            generalize wr.drewN nq = ws at *
            have hw := hB.size
            have hG := hblk.lt
            have s1 : (⟨#[99, 100, 109]⟩ : ByteArray).extract 0 1 = ⟨#[99]⟩ := by rfl
            have s2 : (⟨#[99, 100, 109]⟩ : ByteArray).extract 1 2 = ⟨#[100]⟩ := by rfl
            have s3 : (⟨#[99, 100, 109]⟩ : ByteArray).extract 2 3 = ⟨#[109]⟩ := by rfl
            go_wp2_with fail
            refine (i_rp 99 (n / 100 % 10 - 5) _ (by omega) (by omega)).mono ?_
            rintro e w3 ⟨rfl, hb3⟩
            have hr := rp_len (n / 100 % 10 - 5) 99 (by omega)
            have hblk3 := (hblk.alloc (.cells #[.int .i64 100, .int .i64 10, .int .i64 1] 2)).below hb3 (by simp; omega)
            have hB3 := below_step' hB hb3
            clear hb3
            go_wp2_with fail
            go_roundw
            case rel => exact ⟨1, by omega, by omega, rfl, by rw [HN.out, ← HX.out, ← bcat, ← bcat], hblk3, hB3⟩
            case measure => simp [intOf]
          · have h5' : n / 100 % 10 < 5 := by omega
            rw [digLo _ _ _ _ _ (by omega) (.inl h4)] at EE
            have HX := Lib.hid EE; clear EE h4 h9 h5
            go_wp2_with fail
            go_quiet (fail)
            replace hblk := hblk.drewN nq
            replace hB := below_drewN hB nq
            clear hw hG k0 k1 k2
            generalize wr.drewN nq = ws at *
            have hw := hB.size
            have hG := hblk.lt
            have s1 : (⟨#[99, 100, 109]⟩ : ByteArray).extract 0 1 = ⟨#[99]⟩ := by rfl
            have s2 : (⟨#[99, 100, 109]⟩ : ByteArray).extract 1 2 = ⟨#[100]⟩ := by rfl
            have s3 : (⟨#[99, 100, 109]⟩ : ByteArray).extract 2 3 = ⟨#[109]⟩ := by rfl
            go_wp2_with fail
            refine (i_rp 99 (n / 100 % 10) _ (by omega) (by omega)).mono ?_
            rintro e w3 ⟨rfl, hb3⟩
            have hr := rp_len (n / 100 % 10) 99 (by omega)
            have hblk3 := (hblk.alloc (.cells #[.int .i64 100, .int .i64 10, .int .i64 1] 2)).below hb3 (by simp; omega)
            have hB3 := below_step' hB hb3
            clear hb3
            go_wp2_with fail
            go_roundw
            case rel => exact ⟨1, by omega, by omega, rfl, by rw [HN.out, ← HX.out, ← bcat], hblk3, hB3⟩
            case measure => simp [intOf]
    · have EE := E2.out
      obtain ⟨p, hp⟩ : ∃ p, acc m x1 x2 x3 (1 : Int).toNat = p := ⟨_, rfl⟩
      have hpl : p.length ≤ 19 := by rw [← hp]; show (acc m x1 x2 x3 1).length ≤ 19; simp [acc]; omega
      have hnext : acc m x1 x2 x3 (2 : Int).toNat = p ++ x2 := by rw [← hp]; rfl
      rw [hp]
      clear hp
      have HN := Lib.hid hnext; clear hnext
      by_cases h4 : n / 10 % 10 = 4
      · have b4 : (n / 10 % 10 == 4) = true := by simp [h4]
        rw [digLo _ _ _ _ _ (by omega) (.inr rfl)] at EE
        have h5 : n / 10 % 10 < 5 := by omega
        have HX := Lib.hid EE; clear EE h4
        go_wp2_with fail
        go_quiet (fail)
        replace hblk := hblk.drewN nq
        replace hB := below_drewN hB nq
        clear hw hG k0 k1 k2
        generalize wr.drewN nq = ws at *
        have hw := hB.size
        have hG := hblk.lt
        have s1 : (⟨#[120, 108, 99]⟩ : ByteArray).extract 0 1 = ⟨#[120]⟩ := by rfl
        have s2 : (⟨#[120, 108, 99]⟩ : ByteArray).extract 1 2 = ⟨#[108]⟩ := by rfl
        have s3 : (⟨#[120, 108, 99]⟩ : ByteArray).extract 2 3 = ⟨#[99]⟩ := by rfl
        go_wp2_with fail
        refine (i_rp 120 (n / 10 % 10) _ (by omega) (by omega)).mono ?_
        rintro e w3 ⟨rfl, hb3⟩
        have hr := rp_len (n / 10 % 10) 120 (by omega)
        have hblk3 := (hblk.alloc (.cells #[.int .i64 100, .int .i64 10, .int .i64 1] 2)).below hb3 (by simp; omega)
        have hB3 := below_step' hB hb3
        clear hb3
        go_wp2_with fail
        go_roundw
        case rel => exact ⟨2, by omega, by omega, rfl, by rw [HN.out, ← HX.out, ← bcat], hblk3, hB3⟩
        case measure => simp [intOf]
      · have b4 : (n / 10 % 10 == 4) = false := by simpa using h4
        by_cases h9 : n / 10 % 10 = 9
        · have b9 : (n / 10 % 10 == 9) = true := by simp [h9]
          rw [digHi _ _ _ _ _ (by omega) (.inr rfl)] at EE
          have h5 : 5 ≤ n / 10 % 10 := by omega
          have HX := Lib.hid EE; clear EE h4 h9
          go_wp2_with fail
          go_quiet (fail)
          replace hblk := hblk.drewN nq
          replace hB := below_drewN hB nq
          clear hw hG k0 k1 k2
          generalize wr.drewN nq = ws at *
          have hw := hB.size
          have hG := hblk.lt
          have s1 : (⟨#[120, 108, 99]⟩ : ByteArray).extract 0 1 = ⟨#[120]⟩ := by rfl
          have s2 : (⟨#[120, 108, 99]⟩ : ByteArray).extract 1 2 = ⟨#[108]⟩ := by rfl
          have s3 : (⟨#[120, 108, 99]⟩ : ByteArray).extract 2 3 = ⟨#[99]⟩ := by rfl
          go_wp2_with fail
          refine (i_rp 120 (n / 10 % 10 - 5) _ (by omega) (by omega)).mono ?_
          rintro e w3 ⟨rfl, hb3⟩
          have hr := rp_len (n / 10 % 10 - 5) 120 (by omega)
          have hblk3 := (hblk.alloc (.cells #[.int .i64 100, .int .i64 10, .int .i64 1] 2)).below hb3 (by simp; omega)
          have hB3 := below_step' hB hb3
          clear hb3
          go_wp2_with fail
          go_roundw
          case rel => exact ⟨2, by omega, by omega, rfl, by rw [HN.out, ← HX.out, ← bcat, ← bcat], hblk3, hB3⟩
          case measure => simp [intOf]
        · have b9 : (n / 10 % 10 == 9) = false := by simpa using h9
          by_cases h5 : 5 ≤ n / 10 % 10
          · rw [digHi _ _ _ _ _ h5 (.inl h9)] at EE
            have HX := Lib.hid EE; clear EE h4 h9
            go_wp2_with fail
            go_quiet (fail)
            replace hblk := hblk.drewN nq
            replace hB := below_drewN hB nq
            clear hw hG k0 k1 k2
            generalize wr.drewN nq = ws at *
            have hw := hB.size
            have hG := hblk.lt
            have s1 : (⟨#[120, 108, 99]⟩ : ByteArray).extract 0 1 = ⟨#[120]⟩ := by rfl
            have s2 : (⟨#[120, 108, 99]⟩ : ByteArray).extract 1 2 = ⟨#[108]⟩ := by rfl
            have s3 : (⟨#[120, 108, 99]⟩ : ByteArray).extract 2 3 = ⟨#[99]⟩ := by rfl
            go_wp2_with fail
            refine (i_rp 120 (n / 10 % 10 - 5) _ (by omega) (by omega)).mono ?_
            rintro e w3 ⟨rfl, hb3⟩
            have hr := rp_len (n / 10 % 10 - 5) 120 (by omega)
            have hblk3 := (hblk.alloc (.cells #[.int .i64 100, .int .i64 10, .int .i64 1] 2)).below hb3 (by simp; omega)
            have hB3 := below_step' hB hb3
            clear hb3
            go_wp2_with fail
            go_roundw
            case rel => exact ⟨2, by omega, by omega, rfl, by rw [HN.out, ← HX.out, ← bcat, ← bcat], hblk3, hB3⟩
            case measure => simp [intOf]
          · have h5' : n / 10 % 10 < 5 := by omega
            rw [digLo _ _ _ _ _ (by omega) (.inl h4)] at EE
            have HX := Lib.hid EE; clear EE h4 h9 h5
            go_wp2_with fail
            go_quiet (fail)
            replace hblk := hblk.drewN nq
            replace hB := below_drewN hB nq
            clear hw hG k0 k1 k2
            generalize wr.drewN nq = ws at *
            have hw := hB.size
            have hG := hblk.lt
            have s1 : (⟨#[120, 108, 99]⟩ : ByteArray).extract 0 1 = ⟨#[120]⟩ := by rfl
            have s2 : (⟨#[120, 108, 99]⟩ : ByteArray).extract 1 2 = ⟨#[108]⟩ := by rfl
            have s3 : (⟨#[120, 108, 99]⟩ : ByteArray).extract 2 3 = ⟨#[99]⟩ := by rfl
            go_wp2_with fail
            refine (i_rp 120 (n / 10 % 10) _ (by omega) (by omega)).mono ?_
            rintro e w3 ⟨rfl, hb3⟩
            have hr := rp_len (n / 10 % 10) 120 (by omega)
            have hblk3 := (hblk.alloc (.cells #[.int .i64 100, .int .i64 10, .int .i64 1] 2)).below hb3 (by simp; omega)
            have hB3 := below_step' hB hb3
            clear hb3
            go_wp2_with fail
            go_roundw
            case rel => exact ⟨2, by omega, by omega, rfl, by rw [HN.out, ← HX.out, ← bcat], hblk3, hB3⟩
            case measure => simp [intOf]
    · have EE := E3.out
      obtain ⟨p, hp⟩ : ∃ p, acc m x1 x2 x3 (2 : Int).toNat = p := ⟨_, rfl⟩
      have hpl : p.length ≤ 19 := by rw [← hp]; show (acc m x1 x2 x3 2).length ≤ 19; simp [acc]; omega
      have hnext : acc m x1 x2 x3 (3 : Int).toNat = p ++ x3 := by rw [← hp]; rfl
      rw [hp]
      clear hp
      have HN := Lib.hid hnext; clear hnext
      by_cases h4 : n % 10 = 4
      · have b4 : (n % 10 == 4) = true := by simp [h4]
        rw [digLo _ _ _ _ _ (by omega) (.inr rfl)] at EE
        have h5 : n % 10 < 5 := by omega
        have HX := Lib.hid EE; clear EE h4
        go_wp2_with fail
        go_quiet (fail)
        replace hblk := hblk.drewN nq
        replace hB := below_drewN hB nq
        clear hw hG k0 k1 k2
        generalize wr.drewN nq = ws at *
        have hw := hB.size
        have hG := hblk.lt
        have s1 : (⟨#[105, 118, 120]⟩ : ByteArray).extract 0 1 = ⟨#[105]⟩ := by rfl
        have s2 : (⟨#[105, 118, 120]⟩ : ByteArray).extract 1 2 = ⟨#[118]⟩ := by rfl
        have s3 : (⟨#[105, 118, 120]⟩ : ByteArray).extract 2 3 = ⟨#[120]⟩ := by rfl
        go_wp2_with fail
        refine (i_rp 105 (n % 10) _ (by omega) (by omega)).mono ?_
        rintro e w3 ⟨rfl, hb3⟩
        have hr := rp_len (n % 10) 105 (by omega)
        have hblk3 := (hblk.alloc (.cells #[.int .i64 100, .int .i64 10, .int .i64 1] 2)).below hb3 (by simp; omega)
        have hB3 := below_step' hB hb3
        clear hb3
        go_wp2_with fail
        go_roundw
        case rel => exact ⟨3, by omega, by omega, rfl, by rw [HN.out, ← HX.out, ← bcat], hblk3, hB3⟩
        case measure => simp [intOf]
      · have b4 : (n % 10 == 4) = false := by simpa using h4
        by_cases h9 : n % 10 = 9
        · have b9 : (n % 10 == 9) = true := by simp [h9]
          rw [digHi _ _ _ _ _ (by omega) (.inr rfl)] at EE
          have h5 : 5 ≤ n % 10 := by omega
          have HX := Lib.hid EE; clear EE h4 h9
          go_wp2_with fail
          go_quiet (fail)
          replace hblk := hblk.drewN nq
          replace hB := below_drewN hB nq
          clear hw hG k0 k1 k2
          generalize wr.drewN nq = ws at *
          have hw := hB.size
          have hG := hblk.lt
          have s1 : (⟨#[105, 118, 120]⟩ : ByteArray).extract 0 1 = ⟨#[105]⟩ := by rfl
          have s2 : (⟨#[105, 118, 120]⟩ : ByteArray).extract 1 2 = ⟨#[118]⟩ := by rfl
          have s3 : (⟨#[105, 118, 120]⟩ : ByteArray).extract 2 3 = ⟨#[120]⟩ := by rfl
          go_wp2_with fail
          refine (i_rp 105 (n % 10 - 5) _ (by omega) (by omega)).mono ?_
          rintro e w3 ⟨rfl, hb3⟩
          have hr := rp_len (n % 10 - 5) 105 (by omega)
          have hblk3 := (hblk.alloc (.cells #[.int .i64 100, .int .i64 10, .int .i64 1] 2)).below hb3 (by simp; omega)
          have hB3 := below_step' hB hb3
          clear hb3
          go_wp2_with fail
          go_roundw
          case rel => exact ⟨3, by omega, by omega, rfl, by rw [HN.out, ← HX.out, ← bcat, ← bcat], hblk3, hB3⟩
          case measure => simp [intOf]
        · have b9 : (n % 10 == 9) = false := by simpa using h9
          by_cases h5 : 5 ≤ n % 10
          · rw [digHi _ _ _ _ _ h5 (.inl h9)] at EE
            have HX := Lib.hid EE; clear EE h4 h9
            go_wp2_with fail
            go_quiet (fail)
            replace hblk := hblk.drewN nq
            replace hB := below_drewN hB nq
            clear hw hG k0 k1 k2
            generalize wr.drewN nq = ws at *
            have hw := hB.size
            have hG := hblk.lt
            have s1 : (⟨#[105, 118, 120]⟩ : ByteArray).extract 0 1 = ⟨#[105]⟩ := by rfl
            have s2 : (⟨#[105, 118, 120]⟩ : ByteArray).extract 1 2 = ⟨#[118]⟩ := by rfl
            have s3 : (⟨#[105, 118, 120]⟩ : ByteArray).extract 2 3 = ⟨#[120]⟩ := by rfl
            go_wp2_with fail
            refine (i_rp 105 (n % 10 - 5) _ (by omega) (by omega)).mono ?_
            rintro e w3 ⟨rfl, hb3⟩
            have hr := rp_len (n % 10 - 5) 105 (by omega)
            have hblk3 := (hblk.alloc (.cells #[.int .i64 100, .int .i64 10, .int .i64 1] 2)).below hb3 (by simp; omega)
            have hB3 := below_step' hB hb3
            clear hb3
            go_wp2_with fail
            go_roundw
            case rel => exact ⟨3, by omega, by omega, rfl, by rw [HN.out, ← HX.out, ← bcat, ← bcat], hblk3, hB3⟩
            case measure => simp [intOf]
          · have h5' : n % 10 < 5 := by omega
            rw [digLo _ _ _ _ _ (by omega) (.inl h4)] at EE
            have HX := Lib.hid EE; clear EE h4 h9 h5
            go_wp2_with fail
            go_quiet (fail)
            replace hblk := hblk.drewN nq
            replace hB := below_drewN hB nq
            clear hw hG k0 k1 k2
            generalize wr.drewN nq = ws at *
            have hw := hB.size
            have hG := hblk.lt
            have s1 : (⟨#[105, 118, 120]⟩ : ByteArray).extract 0 1 = ⟨#[105]⟩ := by rfl
            have s2 : (⟨#[105, 118, 120]⟩ : ByteArray).extract 1 2 = ⟨#[118]⟩ := by rfl
            have s3 : (⟨#[105, 118, 120]⟩ : ByteArray).extract 2 3 = ⟨#[120]⟩ := by rfl
            go_wp2_with fail
            refine (i_rp 105 (n % 10) _ (by omega) (by omega)).mono ?_
            rintro e w3 ⟨rfl, hb3⟩
            have hr := rp_len (n % 10) 105 (by omega)
            have hblk3 := (hblk.alloc (.cells #[.int .i64 100, .int .i64 10, .int .i64 1] 2)).below hb3 (by simp; omega)
            have hB3 := below_step' hB hb3
            clear hb3
            go_wp2_with fail
            go_roundw
            case rel => exact ⟨3, by omega, by omega, rfl, by rw [HN.out, ← HX.out, ← bcat], hblk3, hB3⟩
            case measure => simp [intOf]
    · go_wp2_with fail
      go_ret
      exact ⟨rfl, hB⟩
theorem i_numForm (n : Int) (old : Bool) (w : World) (h0 : 1 ≤ n) (h1 : n ≤ 3999) : Calls Tryz.prog 110 #[.int .i64 n, .bool old] w fun e w' => e = .returned (.string ⟨(formL n old).toArray⟩) ∧ Below w.heap.size w w' := by
  cases old
  · exact i_numForm_F n w h0 h1
  · exact i_numForm_T n w h0 h1
end Go.Proofs.YtmpgokijlikddaaGreatDoor
