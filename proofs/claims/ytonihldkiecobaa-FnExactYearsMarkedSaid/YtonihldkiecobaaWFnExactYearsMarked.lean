/- The program's YearsMarked returns what the reference's returns, in new memory, for all marks and years: the walk. No condition. -/
import Derived.Test.YtonihldkiecobaaRows
import Derived.Test.YtonihldkiecobaaKit
import Derived.Test.YtonihldkiecobaaYearsMarkedS
import Derived.Test.YtonihldkiecobaaSlices
namespace Go.Proofs.Ytonihldkiecobaa.fnExactYearsMarked
open Go.RowKit
set_option linter.unusedVariables false
set_option maxHeartbeats 1000000 in
theorem walk (i e c : Int) (w0 : (Lit.int .i64 i).wf = true) (w1 : (Lit.int .i64 e).wf = true) (w2 : (Lit.int .i64 c).wf = true) (f : Int) (wf : (Lit.int .i64 f).wf = true) (t : Int) (wt : (Lit.int .i64 t).wf = true) (w : World) : Calls Try.prog 10 #[.agg #[.int .i64 i, .int .i64 e, .int .i64 c], .int .i64 f, .int .i64 t] w fun e w' => e = .returned (.bool true) ∧ Below w.heap.size w w' := by
  have hlen := ymF_len i e c f t
  go_enter Try.func10, Try.ntmps10
  have B0 := Blk.new w 23 #[.int .i64 i, .int .i64 e, .int .i64 c]
  have HB0 := below_alloc w (.cells #[.int .i64 i, .int .i64 e, .int .i64 c] 23)
  go_wp2_with fail
  refine (toYearMark _ _ _ _).mono ?_
  rintro r w1 ⟨rfl, hb1⟩
  have B1 := B0.below hb1 B0.lt
  have HB1 := below_step HB0 hb1
  clear hb1 B0 HB0
  go_wp2_with fail
  refine (s_YearsMarked _ _ _ _ _ _).mono ?_
  rintro r w2 ⟨v0, rfl, own0, hb2⟩
  have B2 := B1.below hb2 B1.lt
  have HB2 := below_step HB1 hb2
  clear hb2 B1 HB1
  have c0 := B2.c0
  have c1 := B2.c1
  have c2 := B2.c2
  go_wp2_with fail
  refine (toYearMark _ _ _ _).mono ?_
  rintro r w3 ⟨rfl, hb3⟩
  have own03 := own0.below hb3
  have B3 := B2.below hb3 B2.lt
  have HB3 := below_step HB2 hb3
  have z3 := hb3.size
  clear hb3 B2 c0 c1 c2
  go_wp2_with fail
  refine (i_YearsMarked _ _ _ _ _ _).mono ?_
  rintro r w4 ⟨v1, rfl, own1, hb4⟩
  have own04 := own03.below hb4
  have B4 := B3.below hb4 B3.lt
  have HB4 := below_step HB3 hb4
  clear hb4 B3
  go_wp2_with fail
  refine (eqI_same _ own1 own04).mono ?_
  rintro r w5 ⟨rfl, q, rfl⟩
  go_wp2_with fail
  refine (markI 1 _ (own1.drewN q) (by omega) (by omega)).mono ?_
  rintro r w6 ⟨rfl, own16, hg6⟩
  have own06 := (own04.drewN q).kept hg6 (own_ne own0 own1 z3)
  have B6 := (own1.drewN q).blk (B4.drewN q) hg6 (by decide)
  have HB6 := below_grown (below_drewN HB4 q) hg6 own1 HB3.size
  clear B4
  go_wp2_with fail
  refine (heldI 1 _ own16 (by omega) (by omega)).mono ?_
  rintro r w7 ⟨rfl, rfl⟩
  have c0 := B6.c0
  have c1 := B6.c1
  have c2 := B6.c2
  go_wp2_with fail
  refine (toYearMark _ _ _ _).mono ?_
  rintro r w8 ⟨rfl, hb8⟩
  have own08 := own06.below hb8
  have own18 := own16.below hb8
  have HB8 := below_step HB6 hb8
  clear hb8 c0 c1 c2 B6
  go_wp2_with fail
  refine (i_YearsMarked _ _ _ _ _ _).mono ?_
  rintro r w9 ⟨v9, rfl, own9, hb9⟩
  have own09 := own08.below hb9
  have own19 := own18.below hb9
  have HB9 := below_step HB8 hb9
  go_wp2_with fail
  refine (eqI_same _ own9 own09).mono ?_
  rintro r w10 ⟨rfl, q10, rfl⟩
  go_wp2_with fail
  refine (heldI 1 _ (own19.drewN q10) (by omega) (by omega)).mono ?_
  rintro r w11 ⟨rfl, rfl⟩
  go_wp2_with fail
  go_ret
  exact ⟨rfl, below_drewN HB9 _⟩
end Go.Proofs.Ytonihldkiecobaa.fnExactYearsMarked
