/- A reign as the laws hand it on: its size, its copy. Condition: a length that a machine can hold. -/
import Derived.Test.YtmpgokijlikddaaGreatDoorBlk
namespace Go.Proofs.YtmpgokijlikddaaGreatDoor
open Go.RowKit
theorem l_szReign (s : ByteArray) (f t n : Int) (w : World) (hs : s.size ≤ 9223372036854775807) (h0 : 0 ≤ n) (h1 : n ≤ 1048576) : Calls Tryz.prog 93 #[.agg #[.string s, .int .i64 f, .int .i64 t], .int .i64 n] w fun e w' => e = .returned (.int .i64 (if n < s.size then -1 else n - s.size)) ∧ Below w.heap.size w w' := by
  by_cases h : n < s.size
  · rw [if_pos h]
    have hw : IntKind.i64.wrap (n - s.size) = n - s.size := IntWalk.i64_in _ (by omega)
    have hd : n - (s.size : Int) < 0 := by omega
    go_enter Tryz.func93, Tryz.ntmps93
    go_wp2_with fail
    go_ret
    exact ⟨rfl, below_alloc _ _⟩
  · rw [if_neg h]
    have hw : IntKind.i64.wrap (n - s.size) = n - s.size := IntWalk.i64_in _ (by omega)
    have hd : (0 : Int) ≤ n - (s.size : Int) := by omega
    clear h
    go_enter Tryz.func93, Tryz.ntmps93
    go_wp2_with fail
    go_ret
    exact ⟨rfl, below_alloc _ _⟩
theorem l_toReign (s : ByteArray) (f t : Int) (w : World) : Calls Tryz.prog 96 #[.agg #[.string s, .int .i64 f, .int .i64 t]] w fun e w' => e = .returned (.agg #[.string s, .int .i64 f, .int .i64 t]) ∧ Below w.heap.size w w' := by
  go_enter Tryz.func96, Tryz.ntmps96
  go_wp2_with fail
  refine bodyPost_ret (v := .agg #[.string s, .int .i64 f, .int .i64 t]) (by simp [results, Tryz.results96, go_sem]) rfl ⟨rfl, ?_⟩
  exact below_more (below_more (below_alloc _ _) (by simp) _) (by simp; omega) _
end Go.Proofs.YtmpgokijlikddaaGreatDoor
