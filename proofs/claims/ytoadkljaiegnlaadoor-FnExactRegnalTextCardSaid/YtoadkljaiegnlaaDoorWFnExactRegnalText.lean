/- The program's RegnalText returns what the reference's returns, for all lists of reigns and days: the walk. No condition. -/
import Derived.Test.YtoadkljaiegnlaaDoorRows
import Derived.Test.YtoadkljaiegnlaaDoorKit
import Derived.Test.YtoadkljaiegnlaaDoorTxtF
import Derived.Test.YtoadkljaiegnlaaDoorRegL
namespace Go.Proofs.YtoadkljaiegnlaaDoor.fnExactRegnalText
open Go.RowKit
set_option linter.unusedVariables false
-- door
-- laid
set_option maxRecDepth 100000 in
set_option maxHeartbeats 600000 in
theorem walk (a : Option Addr) (c : Nat) (rs : List RG) (hn : rs.length ≤ 9223372036854775807) {w : World} (hin : InR w a rs.length rs) (hx : ∀ i, rgOk (rs.getD i ([], 0, 0))) (m : Int) (_ : (Lit.int .i64 m).wf = true) (_ : World) (_ : w.ShapedOpen Tryd.prog) (ht : Tab w) : Calls Tryd.prog 3 #[.slice a rs.length c, .int .i64 m] w fun e w' => e = .returned (.bool true) ∧ Below w.heap.size w w' := by
  have con := fun W h => l_szReignS a c rs W h hn hx
  have con2 := fun W h h' => l_toReignP a c rs W h h'
  have con3 := fun g c W (h : RowR W g rs.length rs) h' h'' => s_RegnalText g c rs m W h h' hx h''
  have con4 := fun g c W (h : RowR W g rs.length rs) h' h'' h3 => i_RegnalText g c rs m W h h' hx h'' h3
  have con5 := fun g1 g2 c1 c2 W (h1 : RowR W g1 rs.length rs) (h2 : RowR W g2 rs.length rs) h' => l_eqReignS g1 g2 c1 c2 rs W h1 h2 h'
  obtain ⟨p, hp⟩ : ∃ p, txF rs m = p := ⟨_, rfl⟩
  rw [hp] at con3 con4
  clear hp
  obtain ⟨pt, pc⟩ := p
  dsimp only at con3 con4
  have CON := Lib.hid con
  have CON2 := Lib.hid con2
  have CON3 := Lib.hid con3
  have CON4 := Lib.hid con4
  have CON5 := Lib.hid con5
  have HI := Lib.hid hin
  have HT := Lib.hid ht
  clear con con2 con3 con4 con5 hin hx ht
  obtain ⟨n, hnn⟩ : ∃ n, rs.length = n := ⟨_, rfl⟩
  rw [hnn] at CON CON2 CON3 CON4 CON5 HI hn ⊢
  clear hnn
  go_enter Tryd.func3, Tryd.ntmps3
  go_wp2_with fail
  refine (CON.out _ HI.out).mono ?_
  rintro e w1 ⟨⟨r, rfl, hr⟩, hb1⟩
  rcases hr with rfl | ⟨hr0, hr1⟩
  · go_wp2_with fail
    go_ret
    exact ⟨rfl, hb1⟩
  · have hn' : n ≤ 1048576 := by omega
    go_wp2_with fail
    refine (CON2.out _ (HI.out.below hb1) hn').mono ?_
    rintro e w2 ⟨rfl, ho2, hz2, hb2⟩
    have L2 := below_step hb1 hb2
    go_wp2_with fail
    refine (CON3.out _ _ _ ho2.row hn' hz2).mono ?_
    rintro e w3 ⟨rfl, hb3⟩
    have L3 := below_step L2 hb3
    clear ho2 hb1 hb2 L2
    go_wp2_with fail
    refine (CON2.out _ (HI.out.below L3) hn').mono ?_
    rintro e w4 ⟨rfl, ho4, hz4, hb4⟩
    have L4 := below_step L3 hb4
    go_wp2_with fail
    refine (CON4.out _ _ _ ho4.row hn' hz4 (HT.out.of L4 (Nat.le_refl _))).mono ?_
    rintro e w5 ⟨rfl, hb5⟩
    have hx5 := ho4.below hb5 hz4
    have L5 := below_step L4 hb5
    have hz5 := hb5.size
    clear hb3 hb4 ho4 L3 L4 hb5
    go_wp2_with fail
    refine (CON2.out _ (HI.out.below L5) hn').mono ?_
    rintro e w6 ⟨rfl, ho6, hz6, hb6⟩
    have hx6 := hx5.below hb6 (by omega)
    have L6 := below_step L5 hb6
    clear hx5 L5 hb6
    go_wp2_with fail
    refine (CON5.out _ _ _ _ _ hx6.row ho6.row hn').mono ?_
    rintro e w7 ⟨rfl, hb7⟩
    go_wp2_with fail
    go_ret
    exact ⟨rfl, below_step L6 hb7⟩
end Go.Proofs.YtoadkljaiegnlaaDoor.fnExactRegnalText
