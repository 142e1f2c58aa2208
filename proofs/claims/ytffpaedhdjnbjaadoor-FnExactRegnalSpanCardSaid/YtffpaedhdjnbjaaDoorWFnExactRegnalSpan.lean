/- The program's RegnalSpan returns what the reference's returns, for all reigns and years: the walk. No condition. -/
import Derived.Test.YtffpaedhdjnbjaaDoorRows
import Derived.Test.YtffpaedhdjnbjaaDoorKit
import Derived.Test.YtffpaedhdjnbjaaDoorRegF
import Derived.Test.YtffpaedhdjnbjaaDoorReign
import Derived.Test.YtffpaedhdjnbjaaDoorStyle
import Derived.OpenShut
namespace Go.Proofs.YtffpaedhdjnbjaaDoor.fnExactRegnalSpan
open Go.RowKit
set_option linter.unusedVariables false
-- door
set_option maxRecDepth 100000 in
theorem walk (s : ByteArray) (f t : Int) (hs : s.size ≤ maxLen) (wf : (Lit.int .i64 f).wf = true) (wt : (Lit.int .i64 t).wf = true) (k : Int) (wk : (Lit.int .i64 k).wf = true) (w : World) (_ : w.ShapedOpen Tryd.prog) : Calls Tryd.prog 8 #[.agg #[.string s, .int .i64 f, .int .i64 t], .int .i64 k] w fun e w' => e = .returned (.bool true) ∧ Below w.heap.size w w' := by
  have hs' : s.size ≤ 9223372036854775807 := hs
  clear hs
  have hk : k ≤ 9223372036854775807 := (Go.bounds_i64 wk).2
  by_cases hbig : 1048576 < s.size
  · have con := fun W => l_szReign s f t 1048576 W hs' (by omega) (by omega)
    simp only [show ((1048576 : Int) < (s.size : Int)) = True from by simp; omega, if_true] at con
    go_enter Tryd.func8, Tryd.ntmps8
    go_wp2_with fail
    refine (con _).mono ?_
    rintro e w1 ⟨rfl, hb1⟩
    have B1 := (Blk.new w 51 #[.string s, .int .i64 f, .int .i64 t]).below hb1 (by simp)
    have L1 := below_step (below_alloc _ _) hb1
    have c0 := B1.c0
    have c1 := B1.c1
    have c2 := B1.c2
    have hz1 := B1.lt
    go_wp2_with fail
    go_ret
    exact ⟨rfl, L1⟩
  · have con := fun W => l_szReign s f t 1048576 W hs' (by omega) (by omega)
    simp only [show ((1048576 : Int) < (s.size : Int)) = False from by simp; omega, if_false] at con
    have hlt : (0 : Int) ≤ 1048576 - (s.size : Int) := by omega
    clear hbig
    go_enter Tryd.func8, Tryd.ntmps8
    go_wp2_with fail
    refine (con _).mono ?_
    rintro e w1 ⟨rfl, hb1⟩
    have B1 := (Blk.new w 51 #[.string s, .int .i64 f, .int .i64 t]).below hb1 (by simp)
    have L1 := below_step (below_alloc _ _) hb1
    have c0 := B1.c0
    have c1 := B1.c1
    have c2 := B1.c2
    have hz1 := B1.lt
    go_wp2_with fail
    refine (l_toReign _ _ _ _).mono ?_
    rintro e w2 ⟨rfl, hb2⟩
    have B2 := B1.below hb2 B1.lt
    have L2 := L1.trans (hb2.mono (Nat.le_of_lt hz1))
    have c0 := B2.c0
    have c1 := B2.c1
    have c2 := B2.c2
    have hz2 := B2.lt
    go_wp2_with fail
    refine (s_RegnalSpan _ _ _ _ _ hs').mono ?_
    rintro e w3 ⟨rfl, hb3⟩
    have B3 := B2.below hb3 B2.lt
    have L3 := L2.trans (hb3.mono (Nat.le_of_lt hz2))
    have c0 := B3.c0
    have c1 := B3.c1
    have c2 := B3.c2
    have hz3 := B3.lt
    go_wp2_with fail
    refine (l_toReign _ _ _ _).mono ?_
    rintro e w4 ⟨rfl, hb4⟩
    have B4 := (B3.alloc _).below hb4 (by simp; omega)
    have R4 := (Blk.new w3 40 #[.int .i64 (rsF s.data.toList f t k).1.1, .int .i64 (rsF s.data.toList f t k).1.2]).below hb4 (by simp)
    have g0 := R4.c0
    have g1 := R4.c1
    have hy4 := R4.lt
    have L4 := (below_more L3 (Nat.le_of_lt hz3) _).trans (hb4.mono (by simp; omega))
    have c0 := B4.c0
    have c1 := B4.c1
    have c2 := B4.c2
    have hz4 := B4.lt
    go_wp2_with fail
    refine (i_RegnalSpan _ _ _ _ _ hs' hk).mono ?_
    rintro e w5 ⟨rfl, hb5⟩
    have B5 := B4.below hb5 B4.lt
    have L5 := L4.trans (hb5.mono (Nat.le_of_lt hz4))
    have c0 := B5.c0
    have c1 := B5.c1
    have c2 := B5.c2
    have hz5 := B5.lt
    have R5 := R4.below hb5 R4.lt
    have e0 := R5.c0
    have e1 := R5.c1
    have hy5 := R5.lt
    clear g0 g1
    go_wp2_with fail
    refine (eqSpan_same _ _ _).mono ?_
    rintro e w6 ⟨rfl, hb6⟩
    go_wp2_with fail
    go_ret
    exact ⟨rfl, (below_more L5 (Nat.le_of_lt hz5) _).trans (hb6.mono (by simp; omega))⟩
end Go.Proofs.YtffpaedhdjnbjaaDoor.fnExactRegnalSpan
