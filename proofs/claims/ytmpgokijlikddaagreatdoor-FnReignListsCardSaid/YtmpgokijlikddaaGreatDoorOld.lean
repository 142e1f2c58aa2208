/- The reference's l01Old: the old date of a day. Condition: the number is a day. -/
import Derived.Test.YtmpgokijlikddaaGreatDoorL01Date
namespace Go.Proofs.YtmpgokijlikddaaGreatDoor
open Go.RowKit
theorem fieldD0 (x y z : Value) (w : World) : (Instr.field 144 (.agg #[x, y, z]) 0).run Tryz.prog w = .ok x w := by kernel_rfl
theorem fieldD1 (x y z : Value) (w : World) : (Instr.field 144 (.agg #[x, y, z]) 1).run Tryz.prog w = .ok y w := by kernel_rfl
theorem fieldD2 (x y z : Value) (w : World) : (Instr.field 144 (.agg #[x, y, z]) 2).run Tryz.prog w = .ok z w := by kernel_rfl
theorem s_l01Old (n : Int) (w : World) (h0 : 0 ≤ n) (h1 : n ≤ 730499) : Calls Tryz.prog 146 #[.int .i64 n] w fun e w' => e = .returned (.agg #[.int .i64 (yr n), .int .i64 (mo n), .int .i64 (dy n)]) ∧ Below w.heap.size w w' := by
  go_enter Tryz.func146, Tryz.ntmps146
  go_wp2_with fail
  refine (s_dateOf _ _ h0 h1).mono ?_
  rintro e w1 ⟨rfl, hb⟩
  obtain ⟨hc, hf⟩ := bcell hb
  go_wp2
  refine bodyPost_ret (v := .agg #[.int .i64 (yr n), .int .i64 (mo n), .int .i64 (dy n)]) (by simp [results, Tryz.results146, go_sem, hc]) rfl ⟨rfl, ?_⟩
  exact below_set (below_set (below_set (below_step (below_alloc _ _) hb) _ _) _ _) _ _
end Go.Proofs.YtmpgokijlikddaaGreatDoor
