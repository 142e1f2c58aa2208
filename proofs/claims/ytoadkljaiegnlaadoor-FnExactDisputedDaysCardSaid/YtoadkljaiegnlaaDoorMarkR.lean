/- Marks in a list of reigns. Conditions: how the list lies. -/
import Derived.Test.YtoadkljaiegnlaaDoorRegs
import Derived.Test.YtoadkljaiegnlaaDoorHeldS
namespace Go.Proofs.YtoadkljaiegnlaaDoor
open Go.RowKit
theorem grown_set {w w' : World} {g : Nat} (h : w.grownBy w' (some g)) (i : Nat) (u : Value) : w.grownBy (w'.setCell ⟨g, i, none⟩ u) (some g) :=
  ⟨h.os, h.tape, h.output, by simpa using h.size, fun j hj hn => (Below.heap_setCell w' ⟨g, i, none⟩ u j (fun e => hn (by rw [e]))).trans (h.block j hj hn)⟩
set_option maxRecDepth 100000 in
set_option maxHeartbeats 600000 in
theorem l_markR (g c n : Nat) (w : World) (hP : ∃ cs, Blk w g 53 cs ∧ cs.size = n * 3) (hn : n ≤ 1048576) : Calls Tryd.prog 17 #[.slice (some ⟨g, 0, none⟩) n c, .int .i64 1] w fun e w' => e = .returned (.int .i64 (1 + 3 * (n : Int))) ∧ w.grownBy w' (some g) := by
  go_enter Tryd.func17, Tryd.ntmps17
  go_wp2_with fail
  go_loopw [1, 5] (fun q i wr => ∃ k : Nat, k ≤ n ∧ i = .int .i64 k ∧ q = .int .i64 (1 + 3 * (k : Int)) ∧ (∃ cs, Blk wr g 53 cs ∧ cs.size = n * 3) ∧ w.grownBy wr (some g)) (fun _ i _ => n - (intOf i).toNat)
  case atStart => exact ⟨0, by omega, rfl, by simp, hP, World.grownBy.refl _ _⟩
  case round =>
    obtain ⟨k, hk, rfl, rfl, ⟨cs, hb, hs⟩, hgr⟩ := hrel
    by_cases hlt : k < n
    · have con := fun W => l_markText (1 + 3 * k) W (by omega) (by omega)
      have ecast : ((1 + 3 * k : Nat) : Int) = 1 + 3 * (k : Int) := by omega
      rw [ecast] at con
      have CON := Lib.hid con
      clear con ecast
      go_wp2_with fail
      refine (CON.out _).mono ?_
      rintro e w2 ⟨rfl, hb2⟩
      have b2 := hb.below hb2 hb.lt
      have gr2 := grownT hgr (grownB hb2 (some g))
      have f0 := b2.frozen (k * 3)
      have f1 := b2.frozen (k * 3 + 1)
      have f2 := b2.frozen (k * 3 + 2)
      have q0 : ∃ v, w2.cell? ⟨g, k * 3, none⟩ = some v := ⟨_, (b2.cell _).trans (Array.getElem?_eq_getElem (by omega))⟩
      have q1 : ∃ v, w2.cell? ⟨g, k * 3 + 1, none⟩ = some v := ⟨_, (b2.cell _).trans (Array.getElem?_eq_getElem (by omega))⟩
      have q2 : ∃ v, w2.cell? ⟨g, k * 3 + 2, none⟩ = some v := ⟨_, (b2.cell _).trans (Array.getElem?_eq_getElem (by omega))⟩
      obtain ⟨_, q0⟩ := q0
      obtain ⟨_, q1⟩ := q1
      obtain ⟨_, q2⟩ := q2
      clear hb hgr hb2 hP
      go_wp2_with fail
      go_roundw
      case rel => exact ⟨k + 1, by omega, by go_num, by go_num, ⟨_, ((b2.set_ _ _).set_ _ _).set_ _ _, by simp [hs]⟩, grown_set (grown_set (grown_set gr2 _ _) _ _) _ _⟩
      case measure => simp [intOf]; omega
    · obtain rfl : k = n := by omega
      go_wp2_with fail
      go_ret
      exact ⟨rfl, hgr⟩
end Go.Proofs.YtoadkljaiegnlaaDoor
