/- The program's ReadNumber returns what the reference's returns, for all texts: the walk. No condition. -/
import Derived.Test.YtoadkljaiegnlaaDoorRows
import Derived.Test.YtoadkljaiegnlaaDoorKit
import Derived.Test.YtoadkljaiegnlaaDoorRdN
namespace Go.Proofs.YtoadkljaiegnlaaDoor.fnExactReadNumber
open Go.RowKit
set_option linter.unusedVariables false
-- door
-- laidnum
theorem walk (s : ByteArray) (ws : s.size ≤ maxLen) (w : World) (hsh : w.ShapedOpen Tryd.prog) (hN : NumOk w) : Calls Tryd.prog 7 #[.string s] w fun e w' => e = .returned (.bool true) ∧ Below w.heap.size w w' := by
  have HM : Hid (MaxOk w) := Tryd.laysM219.s1_3 w hsh
  have HN := Lib.hid hN
  clear hsh hN
  obtain ⟨x, rfl, hx⟩ : ∃ x : List UInt8, s = ⟨x.toArray⟩ ∧ x.length = s.size := ⟨s.data.toList, by simp, rfl⟩
  have hs : (⟨x.toArray⟩ : ByteArray).size ≤ 9223372036854775807 := ws
  rw [← hx] at hs
  clear ws hx
  by_cases hbig : 1048576 < x.length
  · go_enter Tryd.func7, Tryd.ntmps7
    go_wp2_with fail
    go_ret
    exact ⟨rfl, Below.refl _ _⟩
  · have hb' : (x.length : Int) ≤ 1048576 := by omega
    have sc := fun W => s_ReadNumber x W hs
    have ic := fun W h h' => i_ReadNumber x W (by omega) h h'
    clear hbig
    obtain ⟨p, hp⟩ : ∃ p, rdF x = p := ⟨_, rfl⟩
    rw [hp] at sc ic
    clear hp
    obtain ⟨a, b⟩ := p
    have SC := Lib.hid sc; clear sc
    have IC := Lib.hid ic; clear ic
    go_enter Tryd.func7, Tryd.ntmps7
    go_wp2_with fail
    refine (SC.out _).mono ?_
    rintro e w1 ⟨rfl, hb1⟩
    have HM1 : Hid (MaxOk w1) := HM.out.below hb1
    have HN1 : Hid (NumOk w1) := Lib.hid (HN.out.below hb1)
    go_wp2_with fail
    refine (IC.out _ HN1.out HM1.out).mono ?_
    rintro e w2 ⟨rfl, hb2⟩
    cases b
    all_goals
      go_wp2_with fail
      go_ret
      exact ⟨rfl, below_step hb1 hb2⟩
end Go.Proofs.YtoadkljaiegnlaaDoor.fnExactReadNumber
