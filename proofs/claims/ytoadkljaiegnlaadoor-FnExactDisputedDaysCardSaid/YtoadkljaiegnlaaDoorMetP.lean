/- Spans that lie in a row, anywhere. Condition: how the row lies. -/
import Derived.Test.YtoadkljaiegnlaaDoorSpanQ
import Derived.Test.YtoadkljaiegnlaaDoorAppPd
namespace Go.Proofs.YtoadkljaiegnlaaDoor
open Go.RowKit
/-- spans that lie in a row, anywhere -/
def InP (w : World) (p : Option Addr) (l : List Sp) : Prop :=
  0 < l.length → ∃ b o, p = some ⟨b, o, none⟩ ∧ b < w.heap.size ∧ ∀ j, j < l.length → w.cell? ⟨b, o + j * 2, none⟩ = some (.int .i64 (l.getD j sp0).1) ∧ w.cell? ⟨b, o + j * 2 + 1, none⟩ = some (.int .i64 (l.getD j sp0).2)
theorem InP.of_own {w : World} {b c n : Nat} {A : Option Addr} {l : List Sp} (h : OwnP w b (.slice A n c) l) : InP w A l := fun hl => by
  obtain ⟨_, P⟩ := h.at_
  obtain ⟨g, rfl, _, hg, hc, _⟩ := P hl
  exact ⟨g, 0, rfl, hg, fun j hj => by simpa using hc j hj⟩
theorem own_some {w : World} {b : Nat} {v : Value} {l : List Sp} (h : OwnP w b v l) (hl : 0 < l.length) : v ≠ .slice none 0 0 := by
  obtain ⟨_, A, c, rfl, P⟩ := h.opened
  obtain ⟨g, rfl, _⟩ := P hl
  simp
theorem own_snoc_some {w : World} {b : Nat} {v : Value} {l : List Sp} {s : Sp} (h : OwnP w b v (l ++ [s])) : v ≠ .slice none 0 0 := own_some h (by simp)
end Go.Proofs.YtoadkljaiegnlaaDoor
