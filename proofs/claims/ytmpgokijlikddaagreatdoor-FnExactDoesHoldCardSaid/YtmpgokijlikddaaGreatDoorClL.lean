/- A clause as the laws hand it on: its size, its copy. Condition: a length that a machine can hold. -/
import Derived.Test.YtmpgokijlikddaaGreatDoorBlk
namespace Go.Proofs.YtmpgokijlikddaaGreatDoor
open Go.RowKit
theorem l_szClause (q n m f r d s : Int) (k : ByteArray) (left : Int) (w : World) (hs : k.size ≤ 9223372036854775807) (h0 : 0 ≤ left) (h1 : left ≤ 1048576) : Calls Tryz.prog 27 #[.agg #[.int .i64 q, .int .i64 n, .int .i64 m, .int .i64 f, .int .i64 r, .int .i64 d, .int .i64 s, .string k], .int .i64 left] w fun e w' => e = .returned (.int .i64 (if left < k.size then -1 else left - k.size)) ∧ Below w.heap.size w w' := by
  by_cases h : left < k.size
  · rw [if_pos h]
    have hw : IntKind.i64.wrap (left - k.size) = left - k.size := IntWalk.i64_in _ (by omega)
    have hd : left - (k.size : Int) < 0 := by omega
    go_enter Tryz.func27, Tryz.ntmps27
    go_wp2_with fail
    go_ret
    exact ⟨rfl, below_alloc _ _⟩
  · rw [if_neg h]
    have hw : IntKind.i64.wrap (left - k.size) = left - k.size := IntWalk.i64_in _ (by omega)
    have hd : (0 : Int) ≤ left - (k.size : Int) := by omega
    clear h
    go_enter Tryz.func27, Tryz.ntmps27
    go_wp2_with fail
    go_ret
    exact ⟨rfl, below_alloc _ _⟩
theorem l_toClause (q n m f r d s : Int) (k : ByteArray) (w : World) : Calls Tryz.prog 30 #[.agg #[.int .i64 q, .int .i64 n, .int .i64 m, .int .i64 f, .int .i64 r, .int .i64 d, .int .i64 s, .string k]] w fun e w' => e = .returned (.agg #[.int .i64 q, .int .i64 n, .int .i64 m, .int .i64 f, .int .i64 r, .int .i64 d, .int .i64 s, .string k]) ∧ Below w.heap.size w w' := by
  go_enter Tryz.func30, Tryz.ntmps30
  go_wp2_with fail
  refine bodyPost_ret (v := .agg #[.int .i64 q, .int .i64 n, .int .i64 m, .int .i64 f, .int .i64 r, .int .i64 d, .int .i64 s, .string k]) (by simp [results, Tryz.results30, go_sem]) rfl ⟨rfl, ?_⟩
  exact below_more (below_more (below_alloc _ _) (by simp) _) (by simp; omega) _
end Go.Proofs.YtmpgokijlikddaaGreatDoor
