/- NormalWord, AreAlike: the program's and the reference's functions return what the plain functions say. Condition: lengths that a machine can hold. -/
import Derived.Test.YtelppggliieniaaGreatDoorNmS
import Derived.Test.YtelppggliieniaaGreatDoorNmI
import Derived.Test.YtelppggliieniaaGreatDoorAre
namespace Go.Proofs.YtelppggliieniaaGreatDoor
open Go.RowKit
def nmF (x : List UInt8) : List UInt8 × Int := if wordB x then (nmL x, 0) else ([], 1)
theorem nmF_T {x : List UInt8} (h : wordB x = true) : nmF x = (nmL x, 0) := by unfold nmF; rw [h]; rfl
theorem nmF_F {x : List UInt8} (h : wordB x = false) : nmF x = ([], 1) := by unfold nmF; rw [h]; rfl
theorem s_NormalWord (x : List UInt8) (w : World) (hx : x.length ≤ 9223372036854775807) : Calls Tryz.prog 44 #[.string ⟨x.toArray⟩] w fun e w' => e = .returned (.tuple #[.string ⟨(nmF x).1.toArray⟩, .int .i64 (nmF x).2]) ∧ Below w.heap.size w w' := by
  have cx := fun W => s_IsWord ⟨x.toArray⟩ W hx
  cases h1 : wordB x with
  | true =>
    rw [nmF_T h1]
    have CX := Lib.hid (fun W => toB (cx W) h1)
    have CN := Lib.hid (s_normal x w (word_len h1) (word_pos h1))
    clear cx h1
    go_enter Tryz.func44, Tryz.ntmps44
    go_wp2_with fail
    refine (CX.out _).mono ?_
    rintro e w1 ⟨rfl, rfl⟩
    go_wp2_with fail
    refine CN.out.mono ?_
    rintro e w1 ⟨rfl, hb⟩
    go_wp2_with fail
    go_ret2
    exact ⟨rfl, hb⟩
  | false =>
    rw [nmF_F h1]
    have CX := Lib.hid (fun W => toB (cx W) h1)
    clear cx h1
    go_enter Tryz.func44, Tryz.ntmps44
    go_wp2_with fail
    refine (CX.out _).mono ?_
    rintro e w1 ⟨rfl, rfl⟩
    go_wp2_with fail
    go_ret2
    exact ⟨rfl, Below.refl _ _⟩
theorem i_NormalWord (x : List UInt8) (w : World) (hx : x.length ≤ 9223372036854775807) : Calls Tryz.prog 43 #[.string ⟨x.toArray⟩] w fun e w' => e = .returned (.tuple #[.string ⟨(nmF x).1.toArray⟩, .int .i64 (nmF x).2]) ∧ Below w.heap.size w w' := by
  have cx := fun W => i_IsWord ⟨x.toArray⟩ W hx
  cases h1 : wordB x with
  | true =>
    rw [nmF_T h1]
    have CX := Lib.hid (fun W => toBelowB (cx W) h1)
    have CN := Lib.hid (fun W => i_normal x W (word_len h1) (word_pos h1))
    clear cx h1
    go_enter Tryz.func43, Tryz.ntmps43
    go_wp2_with fail
    refine (CX.out _).mono ?_
    rintro e w1 ⟨rfl, hb1⟩
    go_wp2_with fail
    refine (CN.out _).mono ?_
    rintro e w1 ⟨rfl, hb⟩
    go_wp2_with fail
    go_ret2
    exact ⟨rfl, below_step hb1 hb⟩
  | false =>
    rw [nmF_F h1]
    have CX := Lib.hid (fun W => toBelowB (cx W) h1)
    clear cx h1
    go_enter Tryz.func43, Tryz.ntmps43
    go_wp2_with fail
    refine (CX.out _).mono ?_
    rintro e w1 ⟨rfl, hb1⟩
    go_wp2_with fail
    go_ret2
    exact ⟨rfl, hb1⟩
end Go.Proofs.YtelppggliieniaaGreatDoor
