/- WordDistance: the program's and the reference's functions return what the plain function says. Condition: lengths that a machine can hold. -/
import Derived.Test.YtelppggliieniaaGreatDoorAre
import Derived.Test.YtelppggliieniaaGreatDoorDist
namespace Go.Proofs.YtelppggliieniaaGreatDoor
open Go.RowKit
def wdF (x y : List UInt8) : Int × Int := if wordB x && wordB y then (dist x y, 0) else (0, 1)
theorem wdF_T {x y : List UInt8} (h1 : wordB x = true) (h2 : wordB y = true) : wdF x y = (dist x y, 0) := by unfold wdF; rw [h1, h2]; rfl
theorem wdF_F1 {x y : List UInt8} (h1 : wordB x = false) : wdF x y = (0, 1) := by unfold wdF; rw [h1]; rfl
theorem wdF_F2 {x y : List UInt8} (h2 : wordB y = false) : wdF x y = (0, 1) := by unfold wdF; rw [h2, Bool.and_false]; rfl
theorem s_WordDistance (x y : List UInt8) (w : World) (hx : x.length ≤ 9223372036854775807) (hy : y.length ≤ 9223372036854775807) : Calls Tryz.prog 41 #[.string ⟨x.toArray⟩, .string ⟨y.toArray⟩] w fun e w' => e = .returned (.tuple #[.int .i64 (wdF x y).1, .int .i64 (wdF x y).2]) ∧ Below w.heap.size w w' := by
  have cx := fun W => s_IsWord ⟨x.toArray⟩ W hx
  have cy := fun W => s_IsWord ⟨y.toArray⟩ W hy
  by_cases h1 : wordB x = true
  · by_cases h2 : wordB y = true
    · have cx' := fun W => toB (cx W) h1
      have cy' := fun W => toB (cy W) h2
      have cd := s_dist ⟨x.toArray⟩ ⟨y.toArray⟩ w (word_len40 h1) (word_len40 h2)
      have CX := Lib.hid cx'
      have CY := Lib.hid cy'
      have CD := Lib.hid cd
      have HF := Lib.hid (wdF_T h1 h2)
      clear cx cy cx' cy' cd h1 h2
      go_enter Tryz.func41, Tryz.ntmps41
      go_wp2_with fail
      refine (CX.out _).mono ?_
      rintro e w1 ⟨rfl, rfl⟩
      go_wp2_with fail
      refine (CY.out _).mono ?_
      rintro e w1 ⟨rfl, rfl⟩
      go_wp2_with fail
      refine CD.out.mono ?_
      rintro e w1 ⟨rfl, hb⟩
      go_wp2_with fail
      go_ret2
      exact ⟨by rw [HF.out]; rfl, hb⟩
    · have h2' : wordB y = false := by simpa using h2
      have cx' := fun W => toB (cx W) h1
      have cy' := fun W => toB (cy W) h2'
      have CX := Lib.hid cx'
      have CY := Lib.hid cy'
      have HF := Lib.hid (wdF_F2 (x := x) h2')
      clear cx cy cx' cy' h1 h2 h2'
      go_enter Tryz.func41, Tryz.ntmps41
      go_wp2_with fail
      refine (CX.out _).mono ?_
      rintro e w1 ⟨rfl, rfl⟩
      go_wp2_with fail
      refine (CY.out _).mono ?_
      rintro e w1 ⟨rfl, rfl⟩
      go_wp2_with fail
      go_ret2
      exact ⟨by rw [HF.out]; rfl, Below.refl _ _⟩
  · have h1' : wordB x = false := by simpa using h1
    have cx' := fun W => toB (cx W) h1'
    have CX := Lib.hid cx'
    have HF := Lib.hid (wdF_F1 (y := y) h1')
    clear cx cy cx' h1 h1'
    go_enter Tryz.func41, Tryz.ntmps41
    go_wp2_with fail
    refine (CX.out _).mono ?_
    rintro e w1 ⟨rfl, rfl⟩
    go_wp2_with fail
    go_ret2
    exact ⟨by rw [HF.out]; rfl, Below.refl _ _⟩
theorem i_WordDistance (x y : List UInt8) (w : World) (hx : x.length ≤ 9223372036854775807) (hy : y.length ≤ 9223372036854775807) : Calls Tryz.prog 40 #[.string ⟨x.toArray⟩, .string ⟨y.toArray⟩] w fun e w' => e = .returned (.tuple #[.int .i64 (wdF x y).1, .int .i64 (wdF x y).2]) ∧ Below w.heap.size w w' := by
  have ho := OwnS.lit w w.heap.size #[.string ⟨x.toArray⟩, .string ⟨y.toArray⟩] [x, y] rfl (Nat.le_refl _) (by unfold maxLen; simp)
  have hj : ∀ j, ([x, y].getD j []).length ≤ 9223372036854775807 := by
    intro j
    match j with
    | 0 => exact hx
    | 1 => exact hy
    | j + 2 => simp
  have con := i_are _ ho hj
  have hall : [x, y].all wordB = (wordB x && wordB y) := by simp
  obtain ⟨b, hb⟩ : ∃ b, (wordB x && wordB y) = b := ⟨_, rfl⟩
  have con' := toBelowB con (hall.trans hb)
  have CON := Lib.hid con'
  clear con con' ho hj hall
  cases b
  · have hF : wdF x y = (0, 1) := by unfold wdF; rw [hb]; rfl
    have HF := Lib.hid hF; clear hF hb
    go_enter Tryz.func40, Tryz.ntmps40
    go_wp2_with fail
    refine CON.out.mono ?_
    rintro e w1 ⟨rfl, hb1⟩
    go_wp2_with fail
    go_ret2
    exact ⟨by rw [HF.out]; rfl, below_step (below_alloc _ _) hb1⟩
  · rw [Bool.and_eq_true] at hb
    have HF := Lib.hid (wdF_T hb.1 hb.2)
    have cd := fun W => i_dist ⟨x.toArray⟩ ⟨y.toArray⟩ W (word_len40 hb.1) (word_len40 hb.2)
    have CD := Lib.hid cd
    clear hb cd
    go_enter Tryz.func40, Tryz.ntmps40
    go_wp2_with fail
    refine CON.out.mono ?_
    rintro e w1 ⟨rfl, hb1⟩
    go_wp2_with fail
    refine (CD.out _).mono ?_
    rintro e w2 ⟨rfl, hb2⟩
    go_wp2_with fail
    go_ret2
    exact ⟨by rw [HF.out]; rfl, below_step (below_step (below_alloc _ _) hb1) hb2⟩
end Go.Proofs.YtelppggliieniaaGreatDoor
