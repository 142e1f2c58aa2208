/- The program's NormalWord returns what the reference's returns, for all texts: the walk. No condition. -/
import Derived.Test.YtelppggliieniaaDoorRows
import Derived.Test.YtelppggliieniaaDoorKit
import Derived.Test.YtelppggliieniaaDoorNml
namespace Go.Proofs.YtelppggliieniaaDoor.fnExactNormalWord
open Go.RowKit
set_option linter.unusedVariables false
-- door
theorem str_list0 (s : ByteArray) : ∃ x : List UInt8, s = ⟨x.toArray⟩ ∧ x.length = s.size := ⟨s.data.toList, by simp, rfl⟩
theorem walk (s : ByteArray) (ws : s.size ≤ maxLen) (w : World) (hsh : w.ShapedOpen Tryd.prog) : Calls Tryd.prog 3 #[.string s] w fun e w' => e = .returned (.bool true) ∧ Below w.heap.size w w' := by
  clear hsh
  obtain ⟨x, rfl, hx⟩ := str_list0 s
  have h1 : x.length ≤ 9223372036854775807 := by rw [hx]; exact ws
  have sc := fun W => s_NormalWord x W h1
  have ic := fun W => i_NormalWord x W h1
  obtain ⟨p, hp⟩ : ∃ p, nmF x = p := ⟨_, rfl⟩
  rw [hp] at sc ic
  clear hp ws hx
  obtain ⟨a, b⟩ := p
  have SC := Lib.hid sc; clear sc
  have IC := Lib.hid ic; clear ic
  by_cases hb1 : 1048576 < x.length
  · go_enter Tryd.func3, Tryd.ntmps3
    go_wp2_with fail
    go_ret
    exact ⟨rfl, Below.refl _ _⟩
  · have hb1' : (x.length : Int) ≤ 1048576 := by omega
    clear hb1
    go_enter Tryd.func3, Tryd.ntmps3
    go_wp2_with fail
    refine (SC.out _).mono ?_
    rintro e w1 ⟨rfl, hb1⟩
    go_wp2_with fail
    refine (IC.out _).mono ?_
    rintro e w2 ⟨rfl, hb2⟩
    go_wp2_with fail
    go_ret
    exact ⟨rfl, below_step hb1 hb2⟩
end Go.Proofs.YtelppggliieniaaDoor.fnExactNormalWord
