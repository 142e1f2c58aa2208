/- The program's NearestWord returns what the reference's returns, for all texts, lists of texts and numbers: the walk. No condition. -/
import Derived.Test.YtelppggliieniaaGreatDoorRows
import Derived.Test.YtelppggliieniaaGreatDoorKit
import Derived.Test.YtelppggliieniaaGreatDoorNrw
import Derived.Test.YtelppggliieniaaGreatDoorIdx
namespace Go.Proofs.YtelppggliieniaaGreatDoor.fnExactNearestWord
open Go.RowKit
set_option linter.unusedVariables false
-- door
set_option maxRecDepth 100000 in
set_option maxHeartbeats 600000 in
theorem walk (s : ByteArray) (ws : s.size ≤ maxLen) (a : Option Addr) (c : Nat) (xs : List (List UInt8)) (hn : xs.length ≤ 9223372036854775807) {w : World} (hin : InS w a xs.length xs) (hx : ∀ i, (xs.getD i []).length ≤ 9223372036854775807) (m : Int) (wm : (Lit.int .i64 m).wf = true) (_ : World) (_ : w.ShapedOpen Tryz.prog) : Calls Tryz.prog 6 #[.string s, .slice a xs.length c, .int .i64 m] w fun e w' => e = .returned (.bool true) ∧ Below w.heap.size w w' := by
  obtain ⟨y, rfl, hy⟩ := str_list s
  have h1 : y.length ≤ 9223372036854775807 := by rw [hy]; exact ws
  clear hy ws wm
  by_cases hb1 : 1048576 < y.length
  · have hb1' : (1048576 : Int) < y.length := by omega
    go_enter Tryz.func6, Tryz.ntmps6
    go_wp2_with fail
    go_ret
    exact ⟨rfl, Below.refl _ _⟩
  replace hb1 : (y.length : Int) ≤ 1048576 := by omega
  have con := fun W h => l_szStringS a c xs W h hn hx 1048576 (by omega) (by omega)
  have con2 := fun W h h' => l_toStringS a c xs W h h'
  have con3 := fun (b : Nat) (v : Value) W (h : OwnS W b v xs) => s_NearestWord y m W h h1 hx
  have con4 := fun (b : Nat) (v : Value) W (h : OwnS W b v xs) => i_NearestWord y m W h h1 hx
  have con5 := fun (b1 b2 : Nat) (v1 v2 : Value) W (h1 : OwnS W b1 v1 xs) (h2 : OwnS W b2 v2 xs) => l_eqStringS W h1 h2
  obtain ⟨p, hp⟩ : ∃ p, neF y xs m = p := ⟨_, rfl⟩
  rw [hp] at con3 con4
  obtain ⟨p1, p2, p3⟩ := p
  clear hp
  have CON := Lib.hid con
  have CON2 := Lib.hid con2
  have CON3 := Lib.hid con3
  have CON4 := Lib.hid con4
  have CON5 := Lib.hid con5
  have HI := Lib.hid hin
  clear con con2 con3 con4 con5 hin hx h1
  obtain ⟨n, hnn⟩ : ∃ n, xs.length = n := ⟨_, rfl⟩
  rw [hnn] at CON CON2 HI hn ⊢
  clear hnn
  go_enter Tryz.func6, Tryz.ntmps6
  go_wp2_with fail
  refine (CON.out _ HI.out).mono ?_
  rintro e w1 ⟨⟨r, rfl, hr⟩, rfl⟩
  rcases hr with rfl | ⟨hr, hr0⟩
  · go_wp2_with fail
    go_ret
    exact ⟨rfl, Below.refl _ _⟩
  · have hn' : n ≤ 1048576 := by omega
    clear hr
    go_wp2_with fail
    refine (CON2.out _ HI.out hn').mono ?_
    rintro e w2 ⟨rfl, ho2, hb2⟩
    go_wp2_with fail
    refine (CON3.out _ _ _ ho2).mono ?_
    rintro e w3 ⟨rfl, hb3⟩
    have L3 := below_step hb2 hb3
    go_wp2_with fail
    refine (CON2.out _ (HI.out.below L3) hn').mono ?_
    rintro e w4 ⟨rfl, ho4, hb4⟩
    have L4 := below_step L3 hb4
    go_wp2_with fail
    refine (CON4.out _ _ _ ho4).mono ?_
    rintro e w5 ⟨rfl, hb5⟩
    have ho5 := ho4.below hb5
    have L5 := below_step L4 hb5
    clear hb2 hb3 L3 hb4 L4 hb5 ho2 ho4
    go_wp2_with fail
    refine (CON2.out _ (HI.out.below L5) hn').mono ?_
    rintro e w6 ⟨rfl, ho6, hb6⟩
    have ho7 := ho5.below hb6
    have L6 := below_step L5 hb6
    go_wp2_with fail
    refine (CON5.out _ _ _ _ _ ho7 ho6).mono ?_
    rintro e w7 ⟨rfl, q, rfl⟩
    go_wp2_with fail
    go_ret
    exact ⟨rfl, below_drewN L6 q⟩
end Go.Proofs.YtelppggliieniaaGreatDoor.fnExactNearestWord
