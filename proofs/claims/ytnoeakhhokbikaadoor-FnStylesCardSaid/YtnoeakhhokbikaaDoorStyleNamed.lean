/- StyleNamed: the program's and the reference's functions return what the plain function says. Condition, where the program splits a text: that the library's variable MaxLen holds an int. -/
import Derived.Test.YtnoeakhhokbikaaDoorNames
import Derived.Test.YtnoeakhhokbikaaDoorIdx
namespace Go.Proofs.YtnoeakhhokbikaaDoor
open Go.RowKit
def stN (x : List UInt8) : Int × Bool := if idxL stylesL x < 0 then (0, false) else (idxL stylesL x, true)
theorem stN_hit {x : List UInt8} {k : Nat} (h : idxL stylesL x = k) : stN x = ((k : Int), true) := by
  unfold stN; rw [h, if_neg (by omega)]
theorem stN_miss {x : List UInt8} (h : idxL stylesL x = -1) : stN x = (0, false) := by
  unfold stN; rw [h]; rfl
theorem i_StyleNamed (x : List UInt8) (w : World) (hm : MaxOk w) : Calls Tryd.prog 22 #[.string ⟨x.toArray⟩] w fun e w' => e = .returned (.tuple #[.int .i64 (stN x).1, .bool (stN x).2]) ∧ Below w.heap.size w w' := by
  have con := i_styles w hm
  have CON := Lib.hid con; clear con
  go_enter Tryd.func22, Tryd.ntmps22
  go_wp2_with fail
  refine CON.out.mono ?_
  rintro e w1 ⟨v, rfl, ho, hb⟩
  go_wp2_with fail
  refine (i_sindex x _ ho).mono ?_
  rintro e w2 ⟨rfl, rfl⟩
  rcases idxL_cases stylesL x with h | ⟨k, hk, h, _⟩
  · have HR := Lib.hid (stN_miss h)
    rw [h]
    clear h
    go_wp2_with fail
    go_ret2
    exact ⟨by rw [HR.out]; rfl, hb⟩
  · have HR := Lib.hid (stN_hit h)
    rw [h]
    have hl : stylesL.length = 7 := rfl
    rw [hl] at hk
    clear h hl
    go_wp2_with fail
    go_ret2
    exact ⟨by rw [HR.out]; rfl, hb⟩
theorem s_StyleNamed (x : List UInt8) (w : World) : Calls Tryd.prog 24 #[.string ⟨x.toArray⟩] w fun e w' => e = .returned (.tuple #[.int .i64 (stN x).1, .bool (stN x).2]) ∧ Below w.heap.size w w' := by
  have con := s_styles w
  have CON := Lib.hid con; clear con
  go_enter Tryd.func24, Tryd.ntmps24
  go_wp2_with fail
  refine CON.out.mono ?_
  rintro e w1 ⟨v, rfl, ho, hb⟩
  go_wp2_with fail
  refine (s_text x _ ho).mono ?_
  rintro e w2 ⟨rfl, rfl⟩
  rcases idxL_cases stylesL x with h | ⟨k, hk, h, _⟩
  · have HR := Lib.hid (stN_miss h)
    rw [h]
    clear h
    go_wp2_with fail
    go_ret2
    exact ⟨by rw [HR.out]; rfl, hb⟩
  · have HR := Lib.hid (stN_hit h)
    rw [h]
    have hl : stylesL.length = 7 := rfl
    rw [hl] at hk
    clear h hl
    go_wp2_with fail
    go_ret2
    exact ⟨by rw [HR.out]; rfl, hb⟩
end Go.Proofs.YtnoeakhhokbikaaDoor
