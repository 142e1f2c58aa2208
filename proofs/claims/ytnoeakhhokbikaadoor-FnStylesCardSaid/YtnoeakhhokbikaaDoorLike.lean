/- likeInts: equal lists are told equal. No condition. -/
import Derived.Test.YtnoeakhhokbikaaDoorSlices
namespace Go.Proofs.YtnoeakhhokbikaaDoor
open Go.RowKit
theorem OwnI.lit1 (w : World) (y : Int) : OwnI (w.alloc (.cells #[.int .i64 y] 2)) w.heap.size (.slice (some ⟨w.heap.size, 0, none⟩) 1 1) [y] := World.ownsRow_lit w #[.int .i64 y] 1 (Nat.le_refl _) (by unfold maxLen; omega) rfl
set_option maxHeartbeats 400000 in
theorem like_same {b1 b2 : Nat} {v1 v2 : Value} {xs : List Int} (w : World) (h1 : OwnI w b1 v1 xs) (h2 : OwnI w b2 v2 xs) :
    Calls Tryd.prog 25 #[v1, v2] w fun e w' => e = .returned (.bool true) ∧ Below w.heap.size w w' := by
  obtain ⟨hl, A1, c1, rfl, p1⟩ := h1.opened
  obtain ⟨_, A2, c2, rfl, p2⟩ := h2.opened
  clear h1 h2
  obtain ⟨n, hn⟩ : ∃ n, xs.length = n := ⟨_, rfl⟩
  rw [hn] at p1 p2 hl ⊢
  clear hn
  have P1 := Lib.hid p1; clear p1
  have P2 := Lib.hid p2; clear p2
  go_enter Tryd.func25, Tryd.ntmps25
  go_wp2
  go_loopw [5] (fun i wr => ∃ k : Nat, k ≤ n ∧ i = .int .i64 k ∧ ∃ q, wr = w.drewN q) (fun i _ => n - (intOf i).toNat)
  case atStart => exact ⟨0, by omega, rfl, 0, rfl⟩
  case round =>
    obtain ⟨k, hk, rfl, q, rfl⟩ := hrel
    by_cases hlt : k < n
    · obtain ⟨g1, rfl, _, _, hc1, _⟩ := P1.out (by omega)
      obtain ⟨g2, rfl, _, _, hc2, _⟩ := P2.out (by omega)
      have c1 := hc1 k hlt
      have c2 := hc2 k hlt
      clear hc1 hc2
      go_wp2_with fail
      go_quiet (fail)
      go_wp2
      go_roundw
      case rel => exact ⟨k + 1, by omega, by go_num, _, rfl⟩
      case measure => simp [intOf]; omega
    · go_wp2
      go_ret
      exact ⟨rfl, below_drew _ _⟩
end Go.Proofs.YtnoeakhhokbikaaDoor
