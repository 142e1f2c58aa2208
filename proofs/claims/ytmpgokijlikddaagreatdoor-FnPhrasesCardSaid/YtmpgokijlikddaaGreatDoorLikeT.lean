/- likeTexts9: equal lists of texts are told equal. No condition. -/
import Derived.Test.YtmpgokijlikddaaGreatDoorStrs
import Derived.BigQuiet
namespace Go.Proofs.YtmpgokijlikddaaGreatDoor
open Go.RowKit
set_option maxRecDepth 100000 in
theorem likeT_same {b1 b2 : Nat} {v1 v2 : Value} {xs : List (List UInt8)} (w : World) (h1 : OwnS w b1 v1 xs) (h2 : OwnS w b2 v2 xs) : Calls Tryz.prog 42 #[v1, v2] w fun e w' => e = .returned (.bool true) ∧ ∃ q, w' = w.drewN q := by
  obtain ⟨hl, A1, c1, rfl, p1⟩ := h1.opened
  obtain ⟨_, A2, c2, rfl, p2⟩ := h2.opened
  have P1 := Lib.hid p1; clear p1 h1
  have P2 := Lib.hid p2; clear p2 h2
  obtain ⟨n, hnn⟩ : ∃ n, xs.length = n := ⟨_, rfl⟩
  rw [hnn] at P1 P2 hl ⊢
  clear hnn
  go_enter Tryz.func42, Tryz.ntmps42
  go_wp2_with fail
  go_loopw [5] (fun i wr => ∃ k : Nat, k ≤ n ∧ i = .int .i64 k ∧ ∃ q, wr = w.drewN q) (fun i _ => n - (intOf i).toNat)
  case atStart => exact ⟨0, by omega, rfl, 0, rfl⟩
  case round =>
    obtain ⟨k, hk, rfl, q, rfl⟩ := hrel
    by_cases hlt : k < n
    · obtain ⟨g1, rfl, _, hg1, hc1, _⟩ := P1.out (by omega)
      obtain ⟨g2, rfl, _, hg2, hc2, _⟩ := P2.out (by omega)
      have d1 := hc1 k hlt
      have d2 := hc2 k hlt
      clear hc1 hc2
      go_wp2_with fail
      go_quiet (fail)
      go_wp2_with fail
      go_roundw
      case rel => exact ⟨k + 1, by omega, by go_num, _, rfl⟩
      case measure => simp [intOf]; omega
    · obtain rfl : k = n := by omega
      go_wp2_with fail
      go_ret
      exact ⟨rfl, _, rfl⟩
end Go.Proofs.YtmpgokijlikddaaGreatDoor
