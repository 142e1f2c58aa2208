/- The program's DisputedDays returns what the reference's returns, in new memory, for all lists of reigns: the walk. No condition. -/
import Derived.Test.YtoadkljaiegnlaaDoorRows
import Derived.Test.YtoadkljaiegnlaaDoorKit
import Derived.Test.YtoadkljaiegnlaaDoorRegL
import Derived.Test.YtoadkljaiegnlaaDoorMarkR
import Derived.Test.YtoadkljaiegnlaaDoorHeldP
import Derived.Test.YtoadkljaiegnlaaDoorDisp
namespace Go.Proofs.YtoadkljaiegnlaaDoor.fnExactDisputedDays
open Go.RowKit
set_option linter.unusedVariables false
-- door
theorem ne_row {v : Value} {g : Nat} (h : ∀ k, v.ownBlock = some k → k ≠ g) : v.ownBlock = none ∨ v.ownBlock ≠ some g := by
  cases e : v.ownBlock with
  | none => exact .inl rfl
  | some k => exact .inr fun e' => h k e (by injection e')
set_option maxRecDepth 100000 in
set_option maxHeartbeats 1000000 in
theorem walk (a : Option Addr) (c : Nat) (rs : List RG) (hn : rs.length ≤ 9223372036854775807) {w : World} (hin : InR w a rs.length rs) (hx : ∀ i, rgOk (rs.getD i ([], 0, 0))) (_ : World) (_ : w.ShapedOpen Tryd.prog) : Calls Tryd.prog 6 #[.slice a rs.length c] w fun e w' => e = .returned (.bool true) ∧ Below w.heap.size w w' := by
  have con := fun W h => l_szReignS a c rs W h hn hx
  have con2 := fun W h h' => l_toReignP a c rs W h h'
  have con3 := fun g c W (h : RowR W g rs.length rs) h' h'' => s_DisputedDays g c rs  W h h' hx h''
  have con4 := fun g c W (h : RowR W g rs.length rs) h' h'' => i_DisputedDays g c rs  W h h' hx h''
  have con5 := fun g1 g2 c1 c2 W (h1 : RowR W g1 rs.length rs) (h2 : RowR W g2 rs.length rs) h' => l_eqReignS g1 g2 c1 c2 rs W h1 h2 h'
  have hlen : (ddF rs).1.length ≤ 31 := by have := ddF_len rs; omega
  obtain ⟨p, hp⟩ : ∃ p, ddF rs = p := ⟨_, rfl⟩
  rw [hp] at con3 con4 hlen
  clear hp
  obtain ⟨ys, pc⟩ := p
  dsimp only at hlen con3 con4
  have EQ := Lib.hid (fun (b1 b2 : Nat) (v1 v2 : Value) W (h1 : OwnP W b1 v1 ys) (h2 : OwnP W b2 v2 ys) => eqP_same W h1 h2)
  have MK := Lib.hid (fun (b1 : Nat) (v1 : Value) W (h1 : OwnP W b1 v1 ys) => markP 1 W h1 (by omega) (by omega))
  have HD := Lib.hid (fun (b1 : Nat) (v1 : Value) W (h1 : OwnP W b1 v1 (marksP 1 ys.length)) => heldP 1 W h1 (by omega) (by omega))
  have CON := Lib.hid con
  have CON2 := Lib.hid con2
  have CON3 := Lib.hid con3
  have CON4 := Lib.hid con4
  have CON5 := Lib.hid con5
  have HI := Lib.hid hin
  clear con con2 con3 con4 con5 hin hx
  obtain ⟨ny, hny⟩ : ∃ ny, ys.length = ny := ⟨_, rfl⟩
  rw [hny] at MK HD hlen
  clear hny
  obtain ⟨n, hnn⟩ : ∃ n, rs.length = n := ⟨_, rfl⟩
  rw [hnn] at CON CON2 CON3 CON4 CON5 HI hn ⊢
  clear hnn
  go_enter Tryd.func6, Tryd.ntmps6
  go_wp2_with fail
  refine (CON.out _ HI.out).mono ?_
  rintro e w1 ⟨⟨r, rfl, hr⟩, hb1⟩
  rcases hr with rfl | ⟨hr0, hr1⟩
  · go_wp2_with fail
    go_ret
    exact ⟨rfl, hb1⟩
  · have hn' : n ≤ 1048576 := by omega
    go_wp2_with fail
    refine (CON2.out _ (HI.out.below hb1) hn').mono ?_
    rintro e w2 ⟨rfl, ho2, hz2, hb2⟩
    have L2 := below_step hb1 hb2
    go_wp2_with fail
    refine (CON3.out _ _ _ ho2.row hn' hz2).mono ?_
    rintro e w3 ⟨v1, rfl, o1, hb3⟩
    have L3 := below_step L2 hb3
    have HZ := Lib.hid L3.size
    clear ho2 hb1 hb2 L2
    go_wp2_with fail
    refine (CON2.out _ (HI.out.below L3) hn').mono ?_
    rintro e w4 ⟨rfl, ho4, hz4, hb4⟩
    have L4 := below_step L3 hb4
    have p1 := o1.below hb4
    go_wp2_with fail
    refine (CON4.out _ _ _ ho4.row hn' hz4).mono ?_
    rintro e w5 ⟨v2, rfl, o2, hb5⟩
    have hne := own_neP o1 o2 hb4.size
    have hv1 := ne_row (g := w3.heap.size) fun k hk => by have := (o1.lt k hk).2; omega
    have hv2 := ne_row (g := w3.heap.size) fun k hk => by have := (o2.lt k hk).1; omega
    have p1 := p1.below hb5
    have hx5 := ho4.below hb5 hz4
    have L5 := below_step L4 hb5
    have hz5 := hb5.size
    clear hb3 hb4 o1 ho4 L3 L4 hb5
    go_wp2_with fail
    refine (EQ.out _ _ _ _ _ o2 p1).mono ?_
    rintro e w6 ⟨rfl, hb6⟩
    have o2 := o2.below hb6
    have p1 := p1.below hb6
    have L6 := below_step L5 hb6
    have hx6 := hx5.below hb6 (by omega)
    have hz6 := hb6.size
    clear hx5 L5 hb6
    go_wp2_with fail
    refine (CON2.out _ (HI.out.below L6) hn').mono ?_
    rintro e w7 ⟨rfl, ho7, hz7, hb7⟩
    have o2 := o2.below hb7
    have p1 := p1.below hb7
    have hx7 := hx6.below hb7 (by omega)
    have L7 := below_step L6 hb7
    have hz7' := hb7.size
    clear hx6 L6 hb7
    go_wp2_with fail
    refine (CON5.out _ _ _ _ _ hx7.row ho7.row hn').mono ?_
    rintro e w8 ⟨rfl, hb8⟩
    have o2 := o2.below hb8
    have p1 := p1.below hb8
    have hx8 := hx7.below hb8 (by omega)
    have L8 := below_step L7 hb8
    have hz8 := hb8.size
    clear hx7 L7 hb8 ho7
    have hzz : w.heap.size ≤ w3.heap.size := HZ.out
    go_wp2_with fail
    obtain ⟨cs8, hB8, hs8, _⟩ := hx8
    refine (l_markR _ _ _ _ ⟨cs8, hB8, hs8⟩ hn').mono ?_
    rintro e w9 ⟨rfl, hg9⟩
    have o2 := o2.kept hg9 hv2
    have p1 := p1.kept hg9 hv1
    have hz9 := hg9.size
    have L9 := L8.grown hg9 (by omega) fun k hk => by injection hk with hk; omega
    clear hB8 hs8 hg9 L8 hv1 hv2
    go_wp2_with fail
    refine (EQ.out _ _ _ _ _ o2 p1).mono ?_
    rintro e w10 ⟨rfl, hb10⟩
    have o2 := o2.below hb10
    have p1 := p1.below hb10
    have L10 := below_step L9 hb10
    have hz10 := hb10.size
    clear L9 hb10
    go_wp2_with fail
    refine (MK.out _ _ _ o2).mono ?_
    rintro e w11 ⟨rfl, o11, g11⟩
    have L11 := L10.grown g11 (by omega) fun k hk => by have := (o2.lt k hk).1; omega
    have p1 := p1.kept g11 hne
    have hz11 := g11.size
    clear g11 L10 o2 hne
    go_wp2_with fail
    refine (HD.out _ _ _ o11).mono ?_
    rintro e w12 ⟨rfl, rfl⟩
    go_wp2_with fail
    refine (CON2.out _ (HI.out.below L11) hn').mono ?_
    rintro e w13 ⟨rfl, ho13, hz13, hb13⟩
    have p1 := p1.below hb13
    have o13 := o11.below hb13
    have L13 := below_step L11 hb13
    have hz13' := hb13.size
    clear L11 hb13 o11
    go_wp2_with fail
    refine (CON4.out _ _ _ ho13.row hn' hz13).mono ?_
    rintro e w14 ⟨v3, rfl, o3, hb14⟩
    have p1 := p1.below hb14
    have o14 := o13.below hb14
    have L14 := below_step L13 hb14
    clear L13 o13 ho13
    go_wp2_with fail
    refine (EQ.out _ _ _ _ _ o3 p1).mono ?_
    rintro e w15 ⟨rfl, hb15⟩
    have o15 := o14.below hb15
    have L15 := below_step L14 hb15
    clear L14 o14 p1 o3 hb14 hb15
    go_wp2_with fail
    refine (HD.out _ _ _ o15).mono ?_
    rintro e w16 ⟨rfl, rfl⟩
    go_wp2_with fail
    go_ret
    exact ⟨rfl, L15⟩
end Go.Proofs.YtoadkljaiegnlaaDoor.fnExactDisputedDays
