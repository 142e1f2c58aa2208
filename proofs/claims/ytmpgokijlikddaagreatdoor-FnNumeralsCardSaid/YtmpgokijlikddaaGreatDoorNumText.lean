/- NumeralText: the program's and the reference's functions return what the plain function says. No condition. -/
import Derived.Test.YtmpgokijlikddaaGreatDoorNumeralOf
namespace Go.Proofs.YtmpgokijlikddaaGreatDoor
open Go.RowKit
def numText (n : Int) : List UInt8 := if inB n 1 3999 then formL n false else []
theorem s_NumeralText (n : Int) (w : World) : Calls Tryz.prog 59 #[.int .i64 n] w fun e w' => e = .returned (.string ⟨(numText n).toArray⟩) ∧ w = w' := by
  by_cases h : inB n 1 3999 = true
  · obtain ⟨h0, h1⟩ := inB_iff.1 h
    have hF : numText n = formL n false := by simp [numText, h]
    rw [hF]; clear hF
    go_enter Tryz.func59, Tryz.ntmps59
    go_wp2_with fail
    refine (toB (s_numeral _ _) h).mono ?_
    rintro e w1 ⟨rfl, rfl⟩
    go_wp2_with fail
    refine (s_form _ _ _ h0 h1).mono ?_
    rintro e w1 ⟨rfl, rfl⟩
    go_wp2_with fail
    go_ret
    exact ⟨rfl, rfl⟩
  · have h' : inB n 1 3999 = false := by simpa using h
    have hF : numText n = [] := by simp [numText, h']
    rw [hF]; clear hF h
    go_enter Tryz.func59, Tryz.ntmps59
    go_wp2_with fail
    refine (toB (s_numeral _ _) h').mono ?_
    rintro e w1 ⟨rfl, rfl⟩
    go_wp2_with fail
    go_ret
    exact ⟨rfl, rfl⟩
theorem i_NumeralText (n : Int) (w : World) : Calls Tryz.prog 44 #[.int .i64 n] w fun e w' => e = .returned (.string ⟨(numText n).toArray⟩) ∧ Below w.heap.size w w' := by
  by_cases h : inB n 1 3999 = true
  · obtain ⟨h0, h1⟩ := inB_iff.1 h
    have hF : numText n = formL n false := by simp [numText, h]
    rw [hF]; clear hF
    go_enter Tryz.func44, Tryz.ntmps44
    go_wp2_with fail
    refine (toB (i_numeral _ _) h).mono ?_
    rintro e w1 ⟨rfl, rfl⟩
    go_wp2_with fail
    refine (i_numForm _ _ _ h0 h1).mono ?_
    rintro e w1 ⟨rfl, hb⟩
    go_wp2_with fail
    go_ret
    exact ⟨rfl, hb⟩
  · have h' : inB n 1 3999 = false := by simpa using h
    have hF : numText n = [] := by simp [numText, h']
    rw [hF]; clear hF h
    go_enter Tryz.func44, Tryz.ntmps44
    go_wp2_with fail
    refine (toB (i_numeral _ _) h').mono ?_
    rintro e w1 ⟨rfl, rfl⟩
    go_wp2_with fail
    go_ret
    exact ⟨rfl, Below.refl _ _⟩
end Go.Proofs.YtmpgokijlikddaaGreatDoor
