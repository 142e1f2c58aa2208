/- The program's AreAlike returns what the reference's returns, for all texts: the walk. No condition. -/
import Derived.Test.YtelppggliieniaaGreatDoorRows
import Derived.Test.YtelppggliieniaaGreatDoorKit
import Derived.Test.YtelppggliieniaaGreatDoorAlk
import Derived.Test.YtelppggliieniaaGreatDoorIdx
namespace Go.Proofs.YtelppggliieniaaGreatDoor.fnExactAreAlike
open Go.RowKit
set_option linter.unusedVariables false
-- door
theorem walk (s : ByteArray) (ws : s.size ≤ maxLen) (t : ByteArray) (wt : t.size ≤ maxLen) (w : World) (hsh : w.ShapedOpen Tryz.prog) : Calls Tryz.prog 4 #[.string s, .string t] w fun e w' => e = .returned (.bool true) ∧ Below w.heap.size w w' := by
  clear hsh
  obtain ⟨x, rfl, hx⟩ := str_list s
  obtain ⟨y, rfl, hy⟩ := str_list t
  have h1 : x.length ≤ 9223372036854775807 := by rw [hx]; exact ws
  have h2 : y.length ≤ 9223372036854775807 := by rw [hy]; exact wt
  have sc := fun W => s_AreAlike x y W h1 h2
  have ic := fun W => i_AreAlike x y W h1 h2
  obtain ⟨p, hp⟩ : ∃ p, alF x y = p := ⟨_, rfl⟩
  rw [hp] at sc ic
  clear hp ws wt hx hy
  obtain ⟨a, b⟩ := p
  have SC := Lib.hid sc; clear sc
  have IC := Lib.hid ic; clear ic
  by_cases hb1 : 1048576 < x.length
  · go_enter Tryz.func4, Tryz.ntmps4
    go_wp2_with fail
    go_ret
    exact ⟨rfl, Below.refl _ _⟩
  · have hb1' : (x.length : Int) ≤ 1048576 := by omega
    clear hb1
    by_cases hb2 : 1048576 < y.length
    · go_enter Tryz.func4, Tryz.ntmps4
      go_wp2_with fail
      go_ret
      exact ⟨rfl, Below.refl _ _⟩
    · have hb2' : (y.length : Int) ≤ 1048576 := by omega
      clear hb2
      go_enter Tryz.func4, Tryz.ntmps4
      go_wp2_with fail
      refine (SC.out _).mono ?_
      rintro e w1 ⟨rfl, hb1⟩
      go_wp2_with fail
      refine (IC.out _).mono ?_
      rintro e w2 ⟨rfl, hb2⟩
      go_wp2_with fail
      go_ret
      exact ⟨rfl, below_step hb1 hb2⟩
end Go.Proofs.YtelppggliieniaaGreatDoor.fnExactAreAlike
