/- The program's DaysWith returns what the reference's returns, in new memory, for all arguments: the walk. No condition. -/
import Derived.Test.YtonihldkiecobaaRows
import Derived.Test.YtonihldkiecobaaKit
import Derived.Test.YtonihldkiecobaaDaysWith2
import Derived.Test.YtonihldkiecobaaSlices
namespace Go.Proofs.Ytonihldkiecobaa.fnExactDaysWith
open Go.RowKit
set_option linter.unusedVariables false
set_option maxHeartbeats 1000000 in
theorem walk (a0 : Int) (w0 : (Lit.int .i64 a0).wf = true) (a1 : Int) (w1 : (Lit.int .i64 a1).wf = true) (a2 : Int) (w2 : (Lit.int .i64 a2).wf = true) (a3 : Int) (w3 : (Lit.int .i64 a3).wf = true) (w : World) : Calls Try.prog 13 #[.int .i64 a0, .int .i64 a1, .int .i64 a2, .int .i64 a3] w fun e w' => e = .returned (.bool true) ∧ Below w.heap.size w w' := by
  have hlen := dwsF_len a0 a1 a2 a3
  go_enter Try.func13, Try.ntmps13
  go_wp2_with fail
  refine (s_DaysWith _ _ _ _ _).mono ?_
  rintro e w1 ⟨v0, rfl, own0, hb1⟩
  go_wp2_with fail
  refine (i_DaysWith _ _ _ _ _).mono ?_
  rintro e w2 ⟨v1, rfl, own1, hb2⟩
  have own02 := own0.below hb2
  go_wp2_with fail
  refine (eqI_same _ own1 own02).mono ?_
  rintro e w3 ⟨rfl, q, rfl⟩
  go_wp2_with fail
  refine (markI 1 _ (own1.drewN q) (by omega) (by omega)).mono ?_
  rintro e w4 ⟨rfl, own14, hg4⟩
  have own04 := (own02.drewN q).kept hg4 (own_ne own0 own1 (Nat.le_refl _))
  have hB4 := below_grown (below_drewN (below_step hb1 hb2) q) hg4 own1 hb1.size
  go_wp2_with fail
  refine (heldI 1 _ own14 (by omega) (by omega)).mono ?_
  rintro e w5 ⟨rfl, rfl⟩
  go_wp2_with fail
  refine (i_DaysWith _ _ _ _ _).mono ?_
  rintro e w6 ⟨v6, rfl, own6, hb6⟩
  have own06 := own04.below hb6
  have own16 := own14.below hb6
  go_wp2_with fail
  refine (eqI_same _ own6 own06).mono ?_
  rintro e w7 ⟨rfl, q7, rfl⟩
  go_wp2_with fail
  refine (heldI 1 _ (own16.drewN q7) (by omega) (by omega)).mono ?_
  rintro e w8 ⟨rfl, rfl⟩
  go_wp2_with fail
  go_ret
  exact ⟨rfl, below_drewN (below_step hB4 hb6) _⟩
end Go.Proofs.Ytonihldkiecobaa.fnExactDaysWith
