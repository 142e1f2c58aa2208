/- AreAlike: the program's and the reference's functions return what the plain function says. Condition: lengths that a machine can hold. -/
import Derived.Test.YtmpgokijlikddaaGreatDoorNml
namespace Go.Proofs.YtmpgokijlikddaaGreatDoor
open Go.RowKit
def alB (x y : List UInt8) : Bool := decide (nmL x = nmL y)
def alF (x y : List UInt8) : Bool × Int := if wordB x && wordB y then (alB x y, 0) else (false, 1)
theorem alF_T {x y : List UInt8} (h1 : wordB x = true) (h2 : wordB y = true) : alF x y = (alB x y, 0) := by unfold alF; rw [h1, h2]; rfl
theorem alF_F {x y : List UInt8} (h : (wordB x && wordB y) = false) : alF x y = (false, 1) := by unfold alF; rw [h]; rfl
theorem i_alike (x y : List UInt8) (w : World) (h1 : wordB x = true) (h2 : wordB y = true) : Calls Tryz.prog 106 #[.string ⟨x.toArray⟩, .string ⟨y.toArray⟩] w fun e w' => e = .returned (.bool (alB x y)) ∧ Below w.heap.size w w' := by
  have CX := Lib.hid (fun W => i_normal x W (word_len h1) (word_pos h1))
  have CY := Lib.hid (fun W => i_normal y W (word_len h2) (word_pos h2))
  unfold alB
  obtain ⟨a, ha⟩ : ∃ a, nmL x = a := ⟨_, rfl⟩
  obtain ⟨b, hb⟩ : ∃ b, nmL y = b := ⟨_, rfl⟩
  rw [ha] at CX ⊢
  rw [hb] at CY ⊢
  clear ha hb h1 h2
  by_cases hab : a = b
  · subst hab
    rw [decide_eq_true (rfl : a = a)]
    go_enter Tryz.func106, Tryz.ntmps106
    go_wp2_with fail
    refine (CX.out _).mono ?_
    rintro e w1 ⟨rfl, hb1⟩
    go_wp2_with fail
    refine (CY.out _).mono ?_
    rintro e w2 ⟨rfl, hb2⟩
    go_wp2_with fail
    go_ret
    exact ⟨rfl, below_step hb1 hb2⟩
  · rw [decide_eq_false hab]
    have hne2 : decide (a = b) = false := by simpa using hab
    have hne3 : decide ((⟨a.toArray⟩ : ByteArray) = ⟨b.toArray⟩) = false := by simpa using hab
    have hne4 : (a == b) = false := by simpa using hab
    go_enter Tryz.func106, Tryz.ntmps106
    go_wp2_with fail
    refine (CX.out _).mono ?_
    rintro e w1 ⟨rfl, hb1⟩
    go_wp2_with fail
    refine (CY.out _).mono ?_
    rintro e w2 ⟨rfl, hb2⟩
    go_wp2_with fail
    go_ret
    exact ⟨rfl, below_step hb1 hb2⟩
end Go.Proofs.YtmpgokijlikddaaGreatDoor
