/- The numerals of numbers: plain functions; the reference's l09Digit and l09Form return what they say. Conditions: the bounds that stand in the theorems. -/
import Derived.Test.YtmpgokijlikddaaGreatDoorArith
import Derived.Test.YtmpgokijlikddaaGreatDoorKit
namespace Go.Proofs.YtmpgokijlikddaaGreatDoor
open Go.RowKit
theorem bcat (l m : List UInt8) : (⟨l.toArray⟩ : ByteArray) ++ ⟨m.toArray⟩ = ⟨(l ++ m).toArray⟩ := by
  apply ByteArray.ext; simp
theorem bone (b : UInt8) : (⟨#[b]⟩ : ByteArray) = ⟨[b].toArray⟩ := rfl
def digT (d : Int) (a b : UInt8) : List UInt8 := if 5 ≤ d then b :: List.replicate (d - 5).toNat a else List.replicate d.toNat a
theorem digT_len (d : Int) (a b : UInt8) (h : d ≤ 9) : (digT d a b).length ≤ 5 := by unfold digT; split <;> simp <;> omega
theorem digT_hi (d : Int) (a b : UInt8) (h : 5 ≤ d) (h9 : d ≤ 9) : b :: digT (d - 5) a b = digT d a b := by
  unfold digT; rw [if_pos h, if_neg (by omega)]
theorem digT_lo (d : Int) (a b : UInt8) (h : d ≤ 4) (h0 : 0 < d) : a :: digT (d - 1) a b = digT d a b := by
  unfold digT; rw [if_neg (by omega), if_neg (by omega), show d.toNat = (d - 1).toNat + 1 from by omega, List.replicate_succ]
/-- the letters of a digit -/
def digL (d : Int) (a b c : UInt8) (old : Bool) : List UInt8 := if d = 4 ∧ old = false then [a, b] else if d = 9 ∧ old = false then [a, c] else digT d a b
theorem digL_len (d : Int) (a b c : UInt8) (old : Bool) (h : d ≤ 9) : (digL d a b c old).length ≤ 5 := by
  have := digT_len d a b h
  unfold digL; split
  · simp
  · split
    · simp
    · exact this
theorem digL_T {d : Int} {a b c : UInt8} {old : Bool} (h : (d ≠ 4 ∧ d ≠ 9) ∨ old = true) : digL d a b c old = digT d a b := by
  unfold digL; rcases h with ⟨h1, h2⟩ | h <;> simp [*]
/-- the letters of the thousands -/
def msL (j : Nat) : List UInt8 := List.replicate j 109
theorem msL_len (j : Nat) : (msL j).length = j := by simp [msL]
/-- the usual or the old form with letters v and i -/
def formL (n : Int) (old : Bool) : List UInt8 := msL (n / 1000).toNat ++ digL (n / 100 % 10) 99 100 109 old ++ digL (n / 10 % 10) 120 108 99 old ++ digL (n % 10) 105 118 120 old
theorem s_digT (n : Nat) : ∀ (d : Int), 0 ≤ d → d ≤ n → d ≤ 9 → ∀ (a b c : UInt8) (w : World), Calls Tryz.prog 183 #[.int .i64 d, .string ⟨#[a]⟩, .string ⟨#[b]⟩, .string ⟨#[c]⟩, .bool true] w fun e w' => e = .returned (.string ⟨(digT d a b).toArray⟩) ∧ w = w' := by
  induction n with
  | zero =>
    intro d h0 h1 _ a b c w
    obtain rfl : d = 0 := by omega
    go_enter Tryz.func183, Tryz.ntmps183
    go_wp2_with fail
    go_ret
    exact ⟨rfl, rfl⟩
  | succ n ih =>
    intro d h0 h1 h9 a b c w
    have IH := Lib.hid ih; clear ih
    by_cases hd : d = 0
    · subst hd
      go_enter Tryz.func183, Tryz.ntmps183
      go_wp2_with fail
      go_ret
      exact ⟨rfl, rfl⟩
    · have b0 : (d == 0) = false := by simpa using hd
      by_cases h5 : 5 ≤ d
      · have hl := digT_len (d - 5) a b (by omega)
        have hn : ¬ 9223372036854775807 < 1 + (digT (d - 5) a b).length := by omega
        have he : (⟨#[b]⟩ : ByteArray) ++ ⟨(digT (d - 5) a b).toArray⟩ = ⟨(digT d a b).toArray⟩ := by rw [bone, bcat, ← digT_hi d a b h5 h9]; rfl
        have HE := Lib.hid he; clear he
        have b4 : (d == 4) = false := by simp; omega
        by_cases h4 : d = 9
        · subst h4
          go_enter Tryz.func183, Tryz.ntmps183
          go_wp2_with fail
          refine (IH.out _ (by omega) (by omega) (by omega) a b c _).mono ?_
          rintro e w' ⟨rfl, rfl⟩
          go_wp2_with fail
          go_ret
          exact ⟨by rw [← HE.out]; rfl, rfl⟩
        · have b9 : (d == 9) = false := by simpa using h4
          clear hd h4
          go_enter Tryz.func183, Tryz.ntmps183
          go_wp2_with fail
          refine (IH.out (d - 5) (by omega) (by omega) (by omega) a b c _).mono ?_
          rintro e w' ⟨rfl, rfl⟩
          go_wp2_with fail
          go_ret
          exact ⟨by rw [← HE.out]; rfl, rfl⟩
      · have hl := digT_len (d - 1) a b (by omega)
        have hn : ¬ 9223372036854775807 < 1 + (digT (d - 1) a b).length := by omega
        have he : (⟨#[a]⟩ : ByteArray) ++ ⟨(digT (d - 1) a b).toArray⟩ = ⟨(digT d a b).toArray⟩ := by rw [bone, bcat, ← digT_lo d a b (by omega) (by omega)]; rfl
        have HE := Lib.hid he; clear he
        have b9 : (d == 9) = false := by simp; omega
        have hpos : 0 < d := by omega
        by_cases h4 : d = 4
        · subst h4
          go_enter Tryz.func183, Tryz.ntmps183
          go_wp2_with fail
          refine (IH.out _ (by omega) (by omega) (by omega) a b c _).mono ?_
          rintro e w' ⟨rfl, rfl⟩
          go_wp2_with fail
          go_ret
          exact ⟨by rw [← HE.out]; rfl, rfl⟩
        · have b4 : (d == 4) = false := by simpa using h4
          clear hd h4
          go_enter Tryz.func183, Tryz.ntmps183
          go_wp2_with fail
          refine (IH.out (d - 1) (by omega) (by omega) (by omega) a b c _).mono ?_
          rintro e w' ⟨rfl, rfl⟩
          go_wp2_with fail
          go_ret
          exact ⟨by rw [← HE.out]; rfl, rfl⟩
theorem s_digit (d : Int) (h0 : 0 ≤ d) (h9 : d ≤ 9) (a b c : UInt8) (old : Bool) (w : World) : Calls Tryz.prog 183 #[.int .i64 d, .string ⟨#[a]⟩, .string ⟨#[b]⟩, .string ⟨#[c]⟩, .bool old] w fun e w' => e = .returned (.string ⟨(digL d a b c old).toArray⟩) ∧ w = w' := by
  cases old with
  | true => rw [digL_T (.inr rfl)]; exact s_digT 9 d h0 h9 h9 a b c w
  | false =>
    by_cases h4 : d = 4
    · subst h4
      go_enter Tryz.func183, Tryz.ntmps183
      go_wp2_with fail
      go_ret
      exact ⟨rfl, rfl⟩
    · by_cases h99 : d = 9
      · subst h99
        go_enter Tryz.func183, Tryz.ntmps183
        go_wp2_with fail
        go_ret
        exact ⟨rfl, rfl⟩
      · rw [digL_T (.inl ⟨h4, h99⟩)]
        have b4 : (d == 4) = false := by simpa using h4
        have b9 : (d == 9) = false := by simpa using h99
        by_cases hd : d = 0
        · subst hd
          go_enter Tryz.func183, Tryz.ntmps183
          go_wp2_with fail
          go_ret
          exact ⟨rfl, rfl⟩
        · have b0 : (d == 0) = false := by simpa using hd
          by_cases h5 : 5 ≤ d
          · have hl := digT_len (d - 5) a b (by omega)
            have hn : ¬ 9223372036854775807 < 1 + (digT (d - 5) a b).length := by omega
            have he : (⟨#[b]⟩ : ByteArray) ++ ⟨(digT (d - 5) a b).toArray⟩ = ⟨(digT d a b).toArray⟩ := by rw [bone, bcat, ← digT_hi d a b h5 h9]; rfl
            have HE := Lib.hid he; clear he hd h4 h99
            go_enter Tryz.func183, Tryz.ntmps183
            go_wp2_with fail
            refine (s_digT 9 (d - 5) (by omega) (by omega) (by omega) a b c _).mono ?_
            rintro e w' ⟨rfl, rfl⟩
            go_wp2_with fail
            go_ret
            exact ⟨by rw [← HE.out]; rfl, rfl⟩
          · have hpos : 0 < d := by omega
            have hl := digT_len (d - 1) a b (by omega)
            have hn : ¬ 9223372036854775807 < 1 + (digT (d - 1) a b).length := by omega
            have he : (⟨#[a]⟩ : ByteArray) ++ ⟨(digT (d - 1) a b).toArray⟩ = ⟨(digT d a b).toArray⟩ := by rw [bone, bcat, ← digT_lo d a b (by omega) (by omega)]; rfl
            have HE := Lib.hid he; clear he hd h4 h99
            go_enter Tryz.func183, Tryz.ntmps183
            go_wp2_with fail
            refine (s_digT 9 (d - 1) (by omega) (by omega) (by omega) a b c _).mono ?_
            rintro e w' ⟨rfl, rfl⟩
            go_wp2_with fail
            go_ret
            exact ⟨by rw [← HE.out]; rfl, rfl⟩
set_option maxHeartbeats 800000 in
theorem s_form (n : Int) (old : Bool) (w : World) (h0 : 1 ≤ n) (h1 : n ≤ 3999) : Calls Tryz.prog 118 #[.int .i64 n, .bool old] w fun e w' => e = .returned (.string ⟨(formL n old).toArray⟩) ∧ w = w' := by
  have hF : formL n old = msL (n / 1000).toNat ++ digL (n / 100 % 10) 99 100 109 old ++ digL (n / 10 % 10) 120 108 99 old ++ digL (n % 10) 105 118 120 old := rfl
  have l1 := digL_len (n / 100 % 10) 99 100 109 old (by omega)
  have l2 := digL_len (n / 10 % 10) 120 108 99 old (by omega)
  have l3 := digL_len (n % 10) 105 118 120 old (by omega)
  have c1 := fun W : World => s_digit (n / 100 % 10) (by omega) (by omega) 99 100 109 old W
  have c2 := fun W : World => s_digit (n / 10 % 10) (by omega) (by omega) 120 108 99 old W
  have c3 := fun W : World => s_digit (n % 10) (by omega) (by omega) 105 118 120 old W
  generalize digL (n / 100 % 10) 99 100 109 old = x1 at *
  generalize digL (n / 10 % 10) 120 108 99 old = x2 at *
  generalize digL (n % 10) 105 118 120 old = x3 at *
  rw [hF]; clear hF
  have C1 := Lib.hid c1; clear c1
  have C2 := Lib.hid c2; clear c2
  have C3 := Lib.hid c3; clear c3
  have hq0 : 0 ≤ n / 1000 := by omega
  have hq1 : n / 1000 ≤ 3 := by omega
  go_enter Tryz.func118, Tryz.ntmps118
  go_wp2_with fail
  go_loop [5, 6] (fun o k => ∃ j : Nat, (j : Int) ≤ n / 1000 ∧ k = .int .i64 j ∧ o = .string ⟨(msL j).toArray⟩) (fun _ k => (n / 1000 - intOf k).toNat)
  case atStart => exact ⟨0, by omega, rfl, rfl⟩
  case round =>
    obtain ⟨j, hj, rfl, rfl⟩ := hrel
    have hml := msL_len j
    have HML := Lib.hid hml; clear hml
    by_cases hlt : (j : Int) < n / 1000
    · have hb : ¬ 9223372036854775807 < (msL j).length + 1 := by rw [HML.out]; omega
      have he : (⟨(msL j).toArray⟩ : ByteArray) ++ ⟨#[109]⟩ = ⟨(msL (j + 1)).toArray⟩ := by rw [bone, bcat]; unfold msL; rw [← List.replicate_succ']
      have HE := Lib.hid he; clear he
      go_wp2_with fail
      go_round
      case rel => exact ⟨j + 1, by omega, by go_num, by rw [HE.out]⟩
      case measure => simp [intOf]; omega
    · have hj' : (n / 1000).toNat = j := by omega
      have hj0 : j ≤ 3 := by omega
      have HJ := Lib.hid hj'; clear hj'
      have b1 : ¬ 9223372036854775807 < (msL j).length + x1.length := by rw [HML.out]; omega
      have b2 : ¬ 9223372036854775807 < (msL j).length + x1.length + x2.length := by rw [HML.out]; omega
      have b3 : ¬ 9223372036854775807 < (msL j).length + x1.length + x2.length + x3.length := by rw [HML.out]; omega
      go_wp2_with fail
      refine (C1.out _).mono ?_
      rintro e w1 ⟨rfl, rfl⟩
      go_wp2_with fail
      refine (C2.out _).mono ?_
      rintro e w1 ⟨rfl, rfl⟩
      go_wp2_with fail
      refine (C3.out _).mono ?_
      rintro e w1 ⟨rfl, rfl⟩
      go_wp2_with fail
      go_ret
      exact ⟨by rw [HJ.out, ← bcat, ← bcat, ← bcat]; rfl, rfl⟩
end Go.Proofs.YtmpgokijlikddaaGreatDoor
