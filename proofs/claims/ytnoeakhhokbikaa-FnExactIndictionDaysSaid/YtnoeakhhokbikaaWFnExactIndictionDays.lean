/- The program's IndictionDays returns what the reference's returns, in new memory, for all arguments: the walk. No condition. -/
import Derived.Test.YtnoeakhhokbikaaRows
import Derived.Test.YtnoeakhhokbikaaKit
import Derived.Test.YtnoeakhhokbikaaIndDays2
import Derived.Test.YtnoeakhhokbikaaHeldP
namespace Go.Proofs.Ytnoeakhhokbikaa.fnExactIndictionDays
open Go.RowKit
set_option linter.unusedVariables false
theorem idF_len (k i a b : Int) : (idF k i a b).1.length ≤ 120 := by
  unfold idF
  split
  · rename_i h
    simp only [Bool.and_eq_true, decide_eq_true_eq] at h
    exact indSet_small k i a b h.2
  · simp
set_option maxHeartbeats 1000000 in
theorem walk (a0 : Int) (w0 : (Lit.int .i64 a0).wf = true) (a1 : Int) (w1 : (Lit.int .i64 a1).wf = true) (a2 : Int) (w2 : (Lit.int .i64 a2).wf = true) (a3 : Int) (w3 : (Lit.int .i64 a3).wf = true) (w : World) : Calls Try.prog 3 #[.int .i64 a0, .int .i64 a1, .int .i64 a2, .int .i64 a3] w fun e w' => e = .returned (.bool true) ∧ Below w.heap.size w w' := by
  have hlen := idF_len a0 a1 a2 a3
  have IC := Lib.hid (fun W => i_IndictionDays a0 a1 a2 a3 W)
  have SC := Lib.hid (fun W => s_IndictionDays a0 a1 a2 a3 W)
  obtain ⟨p, hp⟩ : ∃ p, idF a0 a1 a2 a3 = p := ⟨_, rfl⟩
  rw [hp] at hlen IC SC
  clear hp
  obtain ⟨l, E⟩ := p
  dsimp only at hlen IC SC
  go_enter Try.func3, Try.ntmps3
  go_wp2_with fail
  refine (SC.out _).mono ?_
  rintro e w1 ⟨v0, rfl, own0, hb1⟩
  go_wp2_with fail
  refine (IC.out _).mono ?_
  rintro e w2 ⟨v1, rfl, own1, hb2⟩
  have own02 := own0.below hb2
  go_wp2_with fail
  refine (eqP_same _ own1 own02).mono ?_
  rintro e w3 ⟨rfl, hb3⟩
  go_wp2_with fail
  refine (markP 1 _ (own1.below hb3) (by omega) (by omega)).mono ?_
  rintro e w4 ⟨rfl, own14, hg4⟩
  have own04 := (own02.below hb3).kept hg4 (own_neP own0 own1 (Nat.le_refl _))
  have hB4 := below_grownP (below_step (below_step hb1 hb2) hb3) hg4 (own1.below hb3) hb1.size
  go_wp2_with fail
  refine (heldP 1 _ own14 (by omega) (by omega)).mono ?_
  rintro e w5 ⟨rfl, rfl⟩
  go_wp2_with fail
  refine (IC.out _).mono ?_
  rintro e w6 ⟨v6, rfl, own6, hb6⟩
  have own06 := own04.below hb6
  have own16 := own14.below hb6
  go_wp2_with fail
  refine (eqP_same _ own6 own06).mono ?_
  rintro e w7 ⟨rfl, hb7⟩
  go_wp2_with fail
  refine (heldP 1 _ (own16.below hb7) (by omega) (by omega)).mono ?_
  rintro e w8 ⟨rfl, rfl⟩
  go_wp2_with fail
  go_ret
  exact ⟨rfl, below_step (below_step hB4 hb6) hb7⟩
end Go.Proofs.Ytnoeakhhokbikaa.fnExactIndictionDays
