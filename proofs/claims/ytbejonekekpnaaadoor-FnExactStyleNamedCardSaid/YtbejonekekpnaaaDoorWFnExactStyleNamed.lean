/- The program's StyleNamed returns what the reference's returns, for all texts: the walk. No condition. -/
import Derived.Test.YtbejonekekpnaaaDoorRows
import Derived.Test.YtbejonekekpnaaaDoorKit
import Derived.Test.YtbejonekekpnaaaDoorStyleNamed
namespace Go.Proofs.YtbejonekekpnaaaDoor.fnExactStyleNamed
open Go.RowKit
set_option linter.unusedVariables false
-- door
theorem walk (s : ByteArray) (ws : s.size ≤ maxLen) (w : World) (hsh : w.ShapedOpen Tryd.prog) : Calls Tryd.prog 7 #[.string s] w fun e w' => e = .returned (.bool true) ∧ Below w.heap.size w w' := by
  have HM : Hid (MaxOk w) := Tryd.laysM146.s1_3 w hsh
  clear hsh
  obtain ⟨x, rfl, hx⟩ := str_list s
  have hs : (⟨x.toArray⟩ : ByteArray).size ≤ 9223372036854775807 := ws
  rw [← hx] at hs
  clear ws hx
  by_cases hbig : 1048576 < x.length
  · go_enter Tryd.func7, Tryd.ntmps7
    go_wp2_with fail
    go_ret
    exact ⟨rfl, Below.refl _ _⟩
  · have hb' : (x.length : Int) ≤ 1048576 := by omega
    have HX : Hid (x.length ≤ 1048576) := by show x.length ≤ 1048576; omega
    clear hbig
    have sc := fun W => s_StyleNamed x W
    have ic := fun W h => i_StyleNamed x W h
    obtain ⟨p, hp⟩ : ∃ p, stN x = p := ⟨_, rfl⟩
    rw [hp] at sc ic
    clear hp
    obtain ⟨a, b⟩ := p
    have SC := Lib.hid sc; clear sc
    have IC := Lib.hid ic; clear ic
    go_enter Tryd.func7, Tryd.ntmps7
    go_wp2_with fail
    refine (SC.out _).mono ?_
    rintro e w1 ⟨rfl, hb1⟩
    have HM1 : Hid (MaxOk w1) := HM.out.below hb1
    go_wp2_with fail
    refine (IC.out _ HM1.out).mono ?_
    rintro e w2 ⟨rfl, hb2⟩
    cases b
    all_goals
      go_wp2_with fail
      go_ret
      exact ⟨rfl, below_step hb1 hb2⟩
end Go.Proofs.YtbejonekekpnaaaDoor.fnExactStyleNamed
