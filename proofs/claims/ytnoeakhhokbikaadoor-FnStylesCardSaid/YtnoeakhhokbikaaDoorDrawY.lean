/- The draw of a mark with two years. Conditions: how the code lies; at most 4096 bytes. -/
import Derived.Test.YtnoeakhhokbikaaDoorDrawM
namespace Go.Proofs.YtnoeakhhokbikaaDoor
open Go.RowKit
theorem keepC {W : World} {b x : Nat} (h : x ≠ b) (v0 v1 v2 : Value) (o : Nat) (v : Value) (hc : W.cell? ⟨x, o, none⟩ = some v) : (((W.setCell ⟨b, 0, none⟩ v0).setCell ⟨b, 1, none⟩ v1).setCell ⟨b, 2, none⟩ v2).cell? ⟨x, o, none⟩ = some v := by
  rw [World.cell?_setCell_other _ _ _ _ (fun e => by injection e with e1; exact h e1.symm), World.cell?_setCell_other _ _ _ _ (fun e => by injection e with e1; exact h e1.symm), World.cell?_setCell_other _ _ _ _ (fun e => by injection e with e1; exact h e1.symm)]
  exact hc
theorem five5 {P : Int → Prop} {a b c d e : Int} (ha : P a) (hb : P b) (hc : P c) (hd : P d) (he : P e) (j : Nat) (hj : j < 5) : P ([a, b, c, d, e].getD j 0) := by
  match j, hj with
  | 0, _ => exact ha
  | 1, _ => exact hb
  | 2, _ => exact hc
  | 3, _ => exact hd
  | 4, _ => exact he
set_option maxRecDepth 100000 in
theorem l_big' (a : Option Addr) (n c : Nat) (w : World) : Calls Tryd.prog 10 #[.slice a n c] w fun e w' => e = .returned (.bool (decide ((4096 : Int) < n))) ∧ Below w.heap.size w w' := by
  go_enter Tryd.func10, Tryd.ntmps10
  go_wp2_with fail
  go_ret
  exact ⟨rfl, Below.refl _ _⟩
end Go.Proofs.YtnoeakhhokbikaaDoor
