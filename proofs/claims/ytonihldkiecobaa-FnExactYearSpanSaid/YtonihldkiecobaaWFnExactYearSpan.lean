/- The program's YearSpan returns what the reference's returns, for all styles and years: the walk. No condition. -/
import Derived.Test.YtonihldkiecobaaRows
import Derived.Test.YtonihldkiecobaaKit
import Derived.Test.YtonihldkiecobaaStyle
namespace Go.Proofs.Ytonihldkiecobaa.fnExactYearSpan
open Go.RowKit
set_option linter.unusedVariables false
theorem walk (s : Int) (ws : (Lit.int .i64 s).wf = true) (y : Int) (wy : (Lit.int .i64 y).wf = true) (w : World) : Calls Try.prog 8 #[.int .i64 s, .int .i64 y] w fun e w' => e = .returned (.bool true) ∧ Below w.heap.size w w' := by
  go_enter Try.func8, Try.ntmps8
  go_wp2_with fail
  refine (s_YearSpan _ _ _).mono ?_
  rintro e w1 ⟨rfl, hb1⟩
  go_wp2_with fail
  refine (i_YearSpan _ _ _).mono ?_
  rintro e w2 ⟨rfl, hb2⟩
  obtain ⟨hc, hf⟩ := bcell hb2
  have hz : w1.heap.size < w2.heap.size := by have := hb2.size; simp at this; omega
  go_wp2_with fail
  refine (eqSpan_same _ _ _).mono ?_
  rintro e w3 ⟨rfl, hb3⟩
  go_wp2_with fail
  go_ret
  exact ⟨rfl, below_step (below_step hb1 (below_step (below_alloc _ _) hb2)) (below_step (below_alloc _ _) hb3)⟩
end Go.Proofs.Ytonihldkiecobaa.fnExactYearSpan
