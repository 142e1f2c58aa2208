/- The program's limited. Conditions: how the list lies; at most 300 spans. -/
import Derived.Test.YtoadkljaiegnlaaDoorPRow
namespace Go.Proofs.YtoadkljaiegnlaaDoor
open Go.RowKit
theorem i_lim {b : Nat} {v : Value} {l : List Sp} (w : World) (h : OwnP w b v l) (hl : l.length ≤ 300) : Calls Tryd.prog 45 #[v] w fun e w' => e = .returned (.tuple #[v, .int .i64 0]) ∧ w = w' := by
  obtain ⟨_, A, c, rfl, _⟩ := h.opened
  clear h
  obtain ⟨n, hn⟩ : ∃ n, l.length = n := ⟨_, rfl⟩
  rw [hn] at hl ⊢
  clear hn
  go_enter Tryd.func45, Tryd.ntmps45
  go_wp2_with fail
  go_ret2
  exact ⟨rfl, rfl⟩
end Go.Proofs.YtoadkljaiegnlaaDoor
