/- The program's and the reference's functions of numbers: each returns what the plain function says. No condition but the bounds that stand in the theorems. -/
import Derived.Test.YtbejonekekpnaaaRows
import Derived.Test.YtbejonekekpnaaaMath
import Derived.WalkKit
import Derived.ProofKit
namespace Go.Proofs.Ytbejonekekpnaaa
open Go.RowKit
theorem s_in (n lo hi : Int) (w : World) : Calls Try.prog 14 #[.int .i64 n, .int .i64 lo, .int .i64 hi] w fun e w' => e = .returned (.bool (inB n lo hi)) ∧ w = w' := by
  unfold inB
  by_cases h1 : lo ≤ n <;> by_cases h2 : n ≤ hi <;> (go_enter Try.func14, Try.ntmps14; go_wp2; go_ret; exact ⟨by simp [h1, h2], rfl⟩)
theorem i_in (n lo hi : Int) (w : World) : Calls Try.prog 16 #[.int .i64 n, .int .i64 lo, .int .i64 hi] w fun e w' => e = .returned (.bool (inB n lo hi)) ∧ w = w' := by
  unfold inB
  by_cases h1 : lo ≤ n <;> by_cases h2 : n ≤ hi <;> (go_enter Try.func16, Try.ntmps16; go_wp2; go_ret; exact ⟨by simp [h1, h2], rfl⟩)
theorem s_numeral (n : Int) (w : World) : Calls Try.prog 6 #[.int .i64 n] w fun e w' => e = .returned (.bool (inB n 1 3999)) ∧ w = w' := by
  go_enter Try.func6, Try.ntmps6
  go_wp2_with (go_at_call 14; refine (s_in _ _ _ _).mono ?_; rintro e w' ⟨rfl, rfl⟩)
  go_ret
  exact ⟨rfl, rfl⟩
theorem i_numeral (n : Int) (w : World) : Calls Try.prog 9 #[.int .i64 n] w fun e w' => e = .returned (.bool (inB n 1 3999)) ∧ w = w' := by
  go_enter Try.func9, Try.ntmps9
  go_wp2_with (go_at_call 16; refine (i_in _ _ _ _).mono ?_; rintro e w' ⟨rfl, rfl⟩)
  go_ret
  exact ⟨rfl, rfl⟩
end Go.Proofs.Ytbejonekekpnaaa
