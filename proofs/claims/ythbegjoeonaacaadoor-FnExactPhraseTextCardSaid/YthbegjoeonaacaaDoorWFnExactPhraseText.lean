/- The program's PhraseText returns what the reference's returns, for all lists of texts: the walk. No condition. -/
import Derived.Test.YthbegjoeonaacaaDoorRows
import Derived.Test.YthbegjoeonaacaaDoorKit
import Derived.Test.YthbegjoeonaacaaDoorPhr
namespace Go.Proofs.YthbegjoeonaacaaDoor.fnExactPhraseText
open Go.RowKit
set_option linter.unusedVariables false
-- door
set_option maxRecDepth 100000 in
theorem walk (a : Option Addr) (c : Nat) (xs : List (List UInt8)) (hn : xs.length ≤ 9223372036854775807) {w : World} (hin : InS w a xs.length xs) (hx : ∀ i, (xs.getD i []).length ≤ 9223372036854775807) (_ : World) (_ : w.ShapedOpen Tryd.prog) : Calls Tryd.prog 3 #[.slice a xs.length c] w fun e w' => e = .returned (.bool true) ∧ Below w.heap.size w w' := by
  have con := fun W h => l_szStringS a c xs W h hn hx 1048576 (by omega) (by omega)
  have con2 := fun W h h' => l_toStringS a c xs W h h'
  have con3 := fun (b : Nat) (v : Value) W (h : OwnS W b v xs) => s_PhraseText W h hx
  have con4 := fun (b : Nat) (v : Value) W (h : OwnS W b v xs) => i_PhraseText W h hx
  have con5 := fun (b1 b2 : Nat) (v1 v2 : Value) W (h1 : OwnS W b1 v1 xs) (h2 : OwnS W b2 v2 xs) => l_eqStringS W h1 h2
  obtain ⟨p, hp⟩ : ∃ p, phF xs = p := ⟨_, rfl⟩
  rw [hp] at con3 con4
  obtain ⟨pt, pc⟩ := p
  clear hp
  have CON := Lib.hid con
  have CON2 := Lib.hid con2
  have CON3 := Lib.hid con3
  have CON4 := Lib.hid con4
  have CON5 := Lib.hid con5
  have HI := Lib.hid hin
  have HX := Lib.hid hx
  clear con con2 con3 con4 con5 hin hx
  obtain ⟨n, hnn⟩ : ∃ n, xs.length = n := ⟨_, rfl⟩
  rw [hnn] at CON CON2 HI hn ⊢
  clear hnn
  go_enter Tryd.func3, Tryd.ntmps3
  go_wp2_with fail
  refine (CON.out _ HI.out).mono ?_
  rintro e w1 ⟨⟨r, rfl, hr⟩, rfl⟩
  rcases hr with rfl | ⟨hr, hr0⟩
  · go_wp2_with fail
    go_ret
    exact ⟨rfl, Below.refl _ _⟩
  · have hn' : n ≤ 1048576 := by omega
    clear hr
    go_wp2_with fail
    refine (CON2.out _ HI.out hn').mono ?_
    rintro e w2 ⟨rfl, ho2, hb2⟩
    go_wp2_with fail
    refine (CON3.out _ _ _ ho2).mono ?_
    rintro e w3 ⟨rfl, rfl⟩
    go_wp2_with fail
    refine (CON2.out _ (HI.out.below hb2) hn').mono ?_
    rintro e w4 ⟨rfl, ho4, hb4⟩
    have L4 := below_step hb2 hb4
    go_wp2_with fail
    refine (CON4.out _ _ _ ho4).mono ?_
    rintro e w5 ⟨rfl, hb5⟩
    have ho5 := ho4.below hb5
    have L5 := below_step L4 hb5
    go_wp2_with fail
    refine (CON2.out _ (HI.out.below L5) hn').mono ?_
    rintro e w6 ⟨rfl, ho6, hb6⟩
    have ho7 := ho5.below hb6
    have L6 := below_step L5 hb6
    go_wp2_with fail
    refine (CON5.out _ _ _ _ _ ho7 ho6).mono ?_
    rintro e w7 ⟨rfl, q, rfl⟩
    go_wp2_with fail
    go_ret
    exact ⟨rfl, below_drewN L6 q⟩
end Go.Proofs.YthbegjoeonaacaaDoor.fnExactPhraseText
