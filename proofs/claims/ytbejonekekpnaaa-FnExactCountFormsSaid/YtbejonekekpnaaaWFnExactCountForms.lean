/- The program's CountForms returns what the reference's returns, for all arguments: the walk. No condition. -/
import Derived.Test.YtbejonekekpnaaaRows
import Derived.Test.YtbejonekekpnaaaKit
import Derived.Test.YtbejonekekpnaaaCountF
namespace Go.Proofs.Ytbejonekekpnaaa.fnExactCountForms
open Go.RowKit
set_option linter.unusedVariables false
theorem walk (n : Int) (wn : (Lit.int .i64 n).wf = true) (w : World) : Calls Try.prog 3 #[.int .i64 n] w fun e w' => e = .returned (.bool true) ∧ Below w.heap.size w w' := by
  have sc := fun W => s_CountForms n W
  have ic := fun W => i_CountForms n W
  obtain ⟨p, hp⟩ : ∃ p, cntF n = p := ⟨_, rfl⟩
  rw [hp] at sc ic
  clear hp
  obtain ⟨a, b⟩ := p
  have SC := Lib.hid sc; clear sc
  have IC := Lib.hid ic; clear ic
  go_enter Try.func3, Try.ntmps3
  go_wp2_with fail
  refine (SC.out _).mono ?_
  rintro e w1 ⟨rfl, rfl⟩
  go_wp2_with fail
  refine (IC.out _).mono ?_
  rintro e w2 ⟨rfl, hb2⟩
  go_wp2_with fail
  go_ret
  exact ⟨rfl, hb2⟩
end Go.Proofs.Ytbejonekekpnaaa.fnExactCountForms
