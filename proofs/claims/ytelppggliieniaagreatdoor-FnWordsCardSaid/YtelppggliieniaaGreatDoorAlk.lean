/- AreAlike: the program's and the reference's functions return what the plain function says. Condition: lengths that a machine can hold. -/
import Derived.Test.YtelppggliieniaaGreatDoorNml
namespace Go.Proofs.YtelppggliieniaaGreatDoor
open Go.RowKit
def alB (x y : List UInt8) : Bool := decide (nmL x = nmL y)
def alF (x y : List UInt8) : Bool × Int := if wordB x && wordB y then (alB x y, 0) else (false, 1)
theorem alF_T {x y : List UInt8} (h1 : wordB x = true) (h2 : wordB y = true) : alF x y = (alB x y, 0) := by unfold alF; rw [h1, h2]; rfl
theorem alF_F {x y : List UInt8} (h : (wordB x && wordB y) = false) : alF x y = (false, 1) := by unfold alF; rw [h]; rfl
theorem i_alike (x y : List UInt8) (w : World) (h1 : wordB x = true) (h2 : wordB y = true) : Calls Tryz.prog 115 #[.string ⟨x.toArray⟩, .string ⟨y.toArray⟩] w fun e w' => e = .returned (.bool (alB x y)) ∧ Below w.heap.size w w' := by
  have CX := Lib.hid (fun W => i_normal x W (word_len h1) (word_pos h1))
  have CY := Lib.hid (fun W => i_normal y W (word_len h2) (word_pos h2))
  unfold alB
  obtain ⟨a, ha⟩ : ∃ a, nmL x = a := ⟨_, rfl⟩
  obtain ⟨b, hb⟩ : ∃ b, nmL y = b := ⟨_, rfl⟩
  rw [ha] at CX ⊢
  rw [hb] at CY ⊢
  clear ha hb h1 h2
  by_cases hab : a = b
  · subst hab
    rw [decide_eq_true (rfl : a = a)]
    go_enter Tryz.func115, Tryz.ntmps115
    go_wp2_with fail
    refine (CX.out _).mono ?_
    rintro e w1 ⟨rfl, hb1⟩
    go_wp2_with fail
    refine (CY.out _).mono ?_
    rintro e w2 ⟨rfl, hb2⟩
    go_wp2_with fail
    go_ret
    exact ⟨rfl, below_step hb1 hb2⟩
  · rw [decide_eq_false hab]
    have hne2 : decide (a = b) = false := by simpa using hab
    have hne3 : decide ((⟨a.toArray⟩ : ByteArray) = ⟨b.toArray⟩) = false := by simpa using hab
    have hne4 : (a == b) = false := by simpa using hab
    go_enter Tryz.func115, Tryz.ntmps115
    go_wp2_with fail
    refine (CX.out _).mono ?_
    rintro e w1 ⟨rfl, hb1⟩
    go_wp2_with fail
    refine (CY.out _).mono ?_
    rintro e w2 ⟨rfl, hb2⟩
    go_wp2_with fail
    go_ret
    exact ⟨rfl, below_step hb1 hb2⟩
theorem i_AreAlike (x y : List UInt8) (w : World) (hx : x.length ≤ 9223372036854775807) (hy : y.length ≤ 9223372036854775807) : Calls Tryz.prog 31 #[.string ⟨x.toArray⟩, .string ⟨y.toArray⟩] w fun e w' => e = .returned (.tuple #[.bool (alF x y).1, .int .i64 (alF x y).2]) ∧ Below w.heap.size w w' := by
  have ho := OwnS.lit w w.heap.size #[.string ⟨x.toArray⟩, .string ⟨y.toArray⟩] [x, y] rfl (Nat.le_refl _) (by unfold maxLen; simp)
  have hj : ∀ j, ([x, y].getD j []).length ≤ 9223372036854775807 := by
    intro j
    match j with
    | 0 => exact hx
    | 1 => exact hy
    | j + 2 => simp
  have con := i_are _ ho hj
  have hall : [x, y].all wordB = (wordB x && wordB y) := by simp
  obtain ⟨b, hb⟩ : ∃ b, (wordB x && wordB y) = b := ⟨_, rfl⟩
  have con' := toBelowB con (hall.trans hb)
  have CON := Lib.hid con'
  clear con con' ho hj hall
  cases b
  · rw [alF_F hb]
    clear hb
    go_enter Tryz.func31, Tryz.ntmps31
    go_wp2_with fail
    refine CON.out.mono ?_
    rintro e w1 ⟨rfl, hb1⟩
    go_wp2_with fail
    go_ret2
    exact ⟨rfl, below_step (below_alloc _ _) hb1⟩
  · rw [Bool.and_eq_true] at hb
    rw [alF_T hb.1 hb.2]
    have CD := Lib.hid (fun W => i_alike x y W hb.1 hb.2)
    obtain ⟨r, hr⟩ : ∃ r, alB x y = r := ⟨_, rfl⟩
    rw [hr] at CD ⊢
    clear hb hr
    go_enter Tryz.func31, Tryz.ntmps31
    go_wp2_with fail
    refine CON.out.mono ?_
    rintro e w1 ⟨rfl, hb1⟩
    go_wp2_with fail
    refine (CD.out _).mono ?_
    rintro e w2 ⟨rfl, hb2⟩
    go_wp2_with fail
    go_ret2
    exact ⟨rfl, below_step (below_step (below_alloc _ _) hb1) hb2⟩
set_option maxHeartbeats 800000 in
theorem s_AreAlike (x y : List UInt8) (w : World) (hx : x.length ≤ 9223372036854775807) (hy : y.length ≤ 9223372036854775807) : Calls Tryz.prog 30 #[.string ⟨x.toArray⟩, .string ⟨y.toArray⟩] w fun e w' => e = .returned (.tuple #[.bool (alF x y).1, .int .i64 (alF x y).2]) ∧ Below w.heap.size w w' := by
  have cx := fun W => s_IsWord ⟨x.toArray⟩ W hx
  have cy := fun W => s_IsWord ⟨y.toArray⟩ W hy
  cases h1 : wordB x with
  | false =>
    rw [alF_F (by rw [h1]; rfl)]
    have CX := Lib.hid (fun W => toB (cx W) h1)
    clear cx cy h1
    go_enter Tryz.func30, Tryz.ntmps30
    go_wp2_with fail
    refine (CX.out _).mono ?_
    rintro e w1 ⟨rfl, rfl⟩
    go_wp2_with fail
    go_ret2
    exact ⟨rfl, Below.refl _ _⟩
  | true =>
    cases h2 : wordB y with
    | false =>
      rw [alF_F (by rw [h1, h2]; rfl)]
      have CX := Lib.hid (fun W => toB (cx W) h1)
      have CY := Lib.hid (fun W => toB (cy W) h2)
      clear cx cy h1 h2
      go_enter Tryz.func30, Tryz.ntmps30
      go_wp2_with fail
      refine (CX.out _).mono ?_
      rintro e w1 ⟨rfl, rfl⟩
      go_wp2_with fail
      refine (CY.out _).mono ?_
      rintro e w1 ⟨rfl, rfl⟩
      go_wp2_with fail
      go_ret2
      exact ⟨rfl, Below.refl _ _⟩
    | true =>
      rw [alF_T h1 h2]
      have CX := Lib.hid (fun W => toB (cx W) h1)
      have CY := Lib.hid (fun W => toB (cy W) h2)
      have NX := Lib.hid (fun W => s_normal x W (word_len h1) (word_pos h1))
      have NY := Lib.hid (fun W => s_normal y W (word_len h2) (word_pos h2))
      unfold alB
      obtain ⟨a, ha⟩ : ∃ a, nmL x = a := ⟨_, rfl⟩
      obtain ⟨b, hb⟩ : ∃ b, nmL y = b := ⟨_, rfl⟩
      rw [ha] at NX ⊢
      rw [hb] at NY ⊢
      clear ha hb cx cy h1 h2
      by_cases hab : a = b
      · subst hab
        rw [decide_eq_true (rfl : a = a)]
        go_enter Tryz.func30, Tryz.ntmps30
        go_wp2_with fail
        refine (CX.out _).mono ?_
        rintro e w1 ⟨rfl, rfl⟩
        go_wp2_with fail
        refine (CY.out _).mono ?_
        rintro e w1 ⟨rfl, rfl⟩
        go_wp2_with fail
        refine (NX.out _).mono ?_
        rintro e w1 ⟨rfl, hb1⟩
        go_wp2_with fail
        refine (NY.out _).mono ?_
        rintro e w2 ⟨rfl, hb2⟩
        go_wp2_with fail
        go_ret2
        exact ⟨rfl, below_step hb1 hb2⟩
      · rw [decide_eq_false hab]
        have hne2 : decide (a = b) = false := by simpa using hab
        have hne3 : decide ((⟨a.toArray⟩ : ByteArray) = ⟨b.toArray⟩) = false := by simpa using hab
        have hne4 : (a == b) = false := by simpa using hab
        go_enter Tryz.func30, Tryz.ntmps30
        go_wp2_with fail
        refine (CX.out _).mono ?_
        rintro e w1 ⟨rfl, rfl⟩
        go_wp2_with fail
        refine (CY.out _).mono ?_
        rintro e w1 ⟨rfl, rfl⟩
        go_wp2_with fail
        refine (NX.out _).mono ?_
        rintro e w1 ⟨rfl, hb1⟩
        go_wp2_with fail
        refine (NY.out _).mono ?_
        rintro e w2 ⟨rfl, hb2⟩
        go_wp2_with fail
        go_ret2
        exact ⟨rfl, below_step hb1 hb2⟩
end Go.Proofs.YtelppggliieniaaGreatDoor
