/- A number is read from its usual and from its old form, and from its word: the walk. No condition. -/
import Derived.Test.YtmpgokijlikddaaGreatDoorRows
import Derived.Test.YtmpgokijlikddaaGreatDoorKit
import Derived.Test.YtmpgokijlikddaaGreatDoorDrawN9
import Derived.Test.YtmpgokijlikddaaGreatDoorNumLaw
import Derived.Test.YtmpgokijlikddaaGreatDoorRdN
import Derived.Test.YtmpgokijlikddaaGreatDoorMem
import Derived.OpenShut
namespace Go.Proofs.YtmpgokijlikddaaGreatDoor.fnNumerals
open Go.RowKit
set_option linter.unusedVariables false
-- door
-- laidnum
theorem l_bigN (a : Option Addr) (n c : Nat) (w : World) : Calls Tryz.prog 7 #[.slice a n c] w fun e w' => e = .returned (.bool (decide ((4096 : Int) < n))) ∧ Below w.heap.size w w' := by
  go_enter Tryz.func7, Tryz.ntmps7
  go_wp2_with fail
  go_ret
  exact ⟨rfl, Below.refl _ _⟩
set_option maxRecDepth 100000 in
set_option maxHeartbeats 4000000 in
theorem walk (a : Option Addr) (n c : Nat) (xs : List Int) (hn : n ≤ 9223372036854775807) {w : World} (hI : InB w a n xs) (hx : ∀ i, 0 ≤ xs.getD i 0 ∧ xs.getD i 0 ≤ 255) (_ : World) (hsh : w.ShapedOpen Tryz.prog) (hN : NumOk w) : Calls Tryz.prog 6 #[.slice a n c] w fun e w' => e = .returned (.bool true) ∧ Below w.heap.size w w' := by
  have HM : Hid (MaxOk w) := Tryz.laysM219.s1_3 w hsh
  have HN := Lib.hid hN
  clear hsh hN
  have con := l_bigN a n c w
  by_cases hbig : (4096 : Int) < n
  · simp only [hbig, decide_true] at con
    go_enter Tryz.func6, Tryz.ntmps6
    go_wp2_with fail
    refine con.mono ?_
    rintro e w1 ⟨rfl, L1⟩
    go_wp2_with fail
    go_ret
    exact ⟨rfl, L1⟩
  · simp only [hbig, decide_false] at con
    have hn' : n ≤ 4096 := by omega
    have hIB : ∀ W : World, Below w.heap.size w W → InB W a n xs := fun W h => hI.below h
    have HIB := Lib.hid hIB
    have HX := Lib.hid hx
    clear hIB hx hI
    go_enter Tryz.func6, Tryz.ntmps6
    go_wp2_with fail
    refine con.mono ?_
    rintro e w1 ⟨rfl, L⟩
    clear con hbig
    go_wp2_with fail
    refine (d_NumeralText a n c xs _ (HIB.out _ L) hn' HX.out).mono ?_
    rintro e w2 ⟨⟨m, rfl, m0, m1⟩, hb⟩
    replace L := below_step L hb
    clear hb
    have ia := fun W => i_NumeralText m W
    have sa := fun W => s_NumeralText m W
    have ib := fun W h => i_OldNumeral m W h
    have sb := fun W => s_OldNumeral m W
    have ic := fun W => i_CountForms m W
    have sc := fun W => s_CountForms m W
    have ra := fun W h => i_ReadNumeral (numText m) W h (by have := numText_len m; omega)
    have rb := fun W h => i_ReadNumeral (oldT m) W h (by have := oldT_len m; omega)
    have nl := nl_cnt m
    obtain ⟨T1, h1⟩ : ∃ t, numText m = t := ⟨_, rfl⟩
    obtain ⟨T2, h2⟩ : ∃ t, oldT m = t := ⟨_, rfl⟩
    obtain ⟨⟨C, B⟩, h3⟩ : ∃ t, cntF m = t := ⟨_, rfl⟩
    rw [h1] at ia sa ra nl
    rw [h2] at ib sb rb nl
    rw [h3] at ic sc nl
    dsimp only at ic sc nl
    have IA := Lib.hid ia
    have SA := Lib.hid sa
    have IB := Lib.hid ib
    have SB := Lib.hid sb
    have IC := Lib.hid ic
    have SC := Lib.hid sc
    have RA := Lib.hid ra
    have RB := Lib.hid rb
    have NL := Lib.hid nl
    clear ia sa ib sb ic sc ra rb nl h1 h2 h3
    go_wp2_with fail
    refine (IA.out _).mono ?_
    rintro e w3 ⟨rfl, hb⟩
    replace L := below_step L hb
    clear hb IA
    go_wp2_with fail
    refine (IB.out _ (HM.out.below L)).mono ?_
    rintro e w4 ⟨rfl, hb⟩
    replace L := below_step L hb
    clear hb IB
    go_wp2_with fail
    refine (IC.out _).mono ?_
    rintro e w5 ⟨rfl, hb⟩
    replace L := below_step L hb
    clear hb IC
    go_wp2_with fail
    refine (SC.out _).mono ?_
    rintro e w6 ⟨rfl, rfl⟩
    clear SC
    go_wp2_with fail
    refine (d_ReadNumeral a n c xs _ (HIB.out _ L) hn' HX.out).mono ?_
    rintro e w7 ⟨⟨x, rfl, hxl⟩, hb⟩
    replace L := below_step L hb
    clear hb
    have ix := fun W h => i_ReadNumeral x W h (by omega)
    have sx := fun W => s_ReadNumeral x W (by omega)
    have rx := fun W h h' => i_ReadNumber x W (by omega) h h'
    have lx := nl_rd (x := x)
    obtain ⟨⟨X, R⟩, h4⟩ : ∃ t, rnF x = t := ⟨_, rfl⟩
    rw [h4] at ix sx lx
    dsimp only at ix sx lx
    have IX := Lib.hid ix
    have SX := Lib.hid sx
    have RX := Lib.hid rx
    have LX := Lib.hid lx
    clear ix sx rx lx h4 hxl
    go_wp2_with fail
    refine (IX.out _ (HM.out.below L)).mono ?_
    rintro e w8 ⟨rfl, hb⟩
    replace L := below_step L hb
    clear hb IX
    go_wp2_with fail
    refine (SX.out _).mono ?_
    rintro e w9 ⟨rfl, hb⟩
    replace L := below_step L hb
    clear hb SX
    go_wp2_with fail
    refine (d_OrdinalText a n c xs _ (HIB.out _ L) hn' HX.out).mono ?_
    rintro e w10 ⟨⟨k, rfl, k0, k1⟩, hb⟩
    replace L := below_step L hb
    clear hb
    have iw := fun W h => i_OrdinalText k W h
    have sw := fun W => s_OrdinalText k W
    have rw1 := fun W h => i_ReadOrdinal (ordT k) W h
    have lw := nl_ord k
    obtain ⟨O, h5⟩ : ∃ t, ordT k = t := ⟨_, rfl⟩
    rw [h5] at iw sw rw1 lw
    have IW := Lib.hid iw
    have SW := Lib.hid sw
    have RW := Lib.hid rw1
    have LW := Lib.hid lw
    clear iw sw rw1 lw h5
    go_wp2_with fail
    refine (IW.out _ (HM.out.below L)).mono ?_
    rintro e w11 ⟨rfl, hb⟩
    replace L := below_step L hb
    clear hb IW
    go_wp2_with fail
    refine (d_ReadOrdinal a n c xs _ (HIB.out _ L) hn' HX.out).mono ?_
    rintro e w12 ⟨⟨y, rfl, hyl⟩, hb⟩
    replace L := below_step L hb
    clear hb
    have iy := fun W h => i_ReadOrdinal y W h
    have sy := fun W => s_ReadOrdinal y W
    obtain ⟨⟨U, D⟩, h6⟩ : ∃ t, rdO y = t := ⟨_, rfl⟩
    rw [h6] at iy sy
    dsimp only at iy sy
    have IY := Lib.hid iy
    have SY := Lib.hid sy
    clear iy sy h6 hyl
    go_wp2_with fail
    refine (IY.out _ (HM.out.below L)).mono ?_
    rintro e w13 ⟨rfl, hb⟩
    replace L := below_step L hb
    clear hb IY
    go_wp2_with fail
    refine (SY.out _).mono ?_
    rintro e w14 ⟨rfl, hb⟩
    replace L := below_step L hb
    clear hb SY
    go_wp2_with fail
    refine (d_ReadNumber a n c xs _ (HIB.out _ L) hn' HX.out).mono ?_
    rintro e w15 ⟨⟨z, rfl, hzl⟩, hb⟩
    replace L := below_step L hb
    clear hb HIB HX
    have iz := fun W h h' => i_ReadNumber z W (by omega) h h'
    have sz := fun W => s_ReadNumber z W (by omega)
    obtain ⟨⟨Z, E⟩, h7⟩ : ∃ t, rdF z = t := ⟨_, rfl⟩
    rw [h7] at iz sz
    dsimp only at iz sz
    have IZ := Lib.hid iz
    have SZ := Lib.hid sz
    clear iz sz h7 hzl
    go_wp2_with fail
    refine (IZ.out _ (HN.out.below L) (HM.out.below L)).mono ?_
    rintro e w16 ⟨rfl, hb⟩
    replace L := below_step L hb
    clear hb IZ
    go_wp2_with fail
    refine (SZ.out _).mono ?_
    rintro e w17 ⟨rfl, hb⟩
    replace L := below_step L hb
    clear hb SZ
    go_wp2_with fail
    refine (SA.out _).mono ?_
    rintro e w18 ⟨rfl, rfl⟩
    clear SA
    go_wp2_with fail
    refine (SB.out _).mono ?_
    rintro e w19 ⟨rfl, hb⟩
    replace L := below_step L hb
    clear hb SB
    go_wp2_with fail
    refine (SW.out _).mono ?_
    rintro e w20 ⟨rfl, hb⟩
    replace L := below_step L hb
    clear hb SW
    cases R with
    | false =>
      as_aux_lemma =>
        clear RX LX
        rcases LW.out with rfl | ⟨hne, hro⟩
        · as_aux_lemma =>
            clear LW RW
            rcases NL.out with ⟨rfl, rfl, rfl⟩ | ⟨rfl, hra, hrb, hC⟩
            · as_aux_lemma =>
                clear NL RA RB
                go_wp2_with fail
                go_ret
                exact ⟨rfl, L⟩
            · as_aux_lemma =>
                have ra := RA.out
                have rb := RB.out
                rw [hra] at ra
                rw [hrb] at rb
                dsimp only at ra rb
                have RAx := Lib.hid ra
                have RBx := Lib.hid rb
                clear NL RA RB ra rb hra hrb
                go_wp2_with fail
                refine (RAx.out _ (HM.out.below L)).mono ?_
                rintro e wq ⟨rfl, hb⟩
                replace L := below_step L hb
                clear hb
                go_wp2_with fail
                refine (RBx.out _ (HM.out.below L)).mono ?_
                rintro e wq ⟨rfl, hb⟩
                replace L := below_step L hb
                clear hb
                go_wp2_with fail
                go_ret
                exact ⟨rfl, L⟩
        · as_aux_lemma =>
            have rw2 := RW.out
            rw [hro] at rw2
            dsimp only at rw2
            have RWx := Lib.hid rw2
            have he1 : O.isEmpty = false := by simpa using hne
            clear LW RW rw2 hro
            go_wp2_with fail
            refine (RWx.out _ (HM.out.below L)).mono ?_
            rintro e wq ⟨rfl, hb⟩
            replace L := below_step L hb
            clear hb
            rcases NL.out with ⟨rfl, rfl, rfl⟩ | ⟨rfl, hra, hrb, hC⟩
            · as_aux_lemma =>
                clear NL RA RB
                go_wp2_with fail
                go_ret
                exact ⟨rfl, L⟩
            · as_aux_lemma =>
                have ra := RA.out
                have rb := RB.out
                rw [hra] at ra
                rw [hrb] at rb
                dsimp only at ra rb
                have RAx := Lib.hid ra
                have RBx := Lib.hid rb
                clear NL RA RB ra rb hra hrb
                go_wp2_with fail
                refine (RAx.out _ (HM.out.below L)).mono ?_
                rintro e wq ⟨rfl, hb⟩
                replace L := below_step L hb
                clear hb
                go_wp2_with fail
                refine (RBx.out _ (HM.out.below L)).mono ?_
                rintro e wq ⟨rfl, hb⟩
                replace L := below_step L hb
                clear hb
                go_wp2_with fail
                go_ret
                exact ⟨rfl, L⟩
    | true =>
      as_aux_lemma =>
        have rx := RX.out
        rw [LX.out rfl] at rx
        dsimp only at rx
        have RXx := Lib.hid rx
        clear RX LX rx
        go_wp2_with fail
        refine (RXx.out _ (HN.out.below L) (HM.out.below L)).mono ?_
        rintro e wq ⟨rfl, hb⟩
        replace L := below_step L hb
        clear hb
        rcases LW.out with rfl | ⟨hne, hro⟩
        · as_aux_lemma =>
            clear LW RW
            rcases NL.out with ⟨rfl, rfl, rfl⟩ | ⟨rfl, hra, hrb, hC⟩
            · as_aux_lemma =>
                clear NL RA RB
                go_wp2_with fail
                go_ret
                exact ⟨rfl, L⟩
            · as_aux_lemma =>
                have ra := RA.out
                have rb := RB.out
                rw [hra] at ra
                rw [hrb] at rb
                dsimp only at ra rb
                have RAx := Lib.hid ra
                have RBx := Lib.hid rb
                clear NL RA RB ra rb hra hrb
                go_wp2_with fail
                refine (RAx.out _ (HM.out.below L)).mono ?_
                rintro e wq ⟨rfl, hb⟩
                replace L := below_step L hb
                clear hb
                go_wp2_with fail
                refine (RBx.out _ (HM.out.below L)).mono ?_
                rintro e wq ⟨rfl, hb⟩
                replace L := below_step L hb
                clear hb
                go_wp2_with fail
                go_ret
                exact ⟨rfl, L⟩
        · as_aux_lemma =>
            have rw2 := RW.out
            rw [hro] at rw2
            dsimp only at rw2
            have RWx := Lib.hid rw2
            have he1 : O.isEmpty = false := by simpa using hne
            clear LW RW rw2 hro
            go_wp2_with fail
            refine (RWx.out _ (HM.out.below L)).mono ?_
            rintro e wq ⟨rfl, hb⟩
            replace L := below_step L hb
            clear hb
            rcases NL.out with ⟨rfl, rfl, rfl⟩ | ⟨rfl, hra, hrb, hC⟩
            · as_aux_lemma =>
                clear NL RA RB
                go_wp2_with fail
                go_ret
                exact ⟨rfl, L⟩
            · as_aux_lemma =>
                have ra := RA.out
                have rb := RB.out
                rw [hra] at ra
                rw [hrb] at rb
                dsimp only at ra rb
                have RAx := Lib.hid ra
                have RBx := Lib.hid rb
                clear NL RA RB ra rb hra hrb
                go_wp2_with fail
                refine (RAx.out _ (HM.out.below L)).mono ?_
                rintro e wq ⟨rfl, hb⟩
                replace L := below_step L hb
                clear hb
                go_wp2_with fail
                refine (RBx.out _ (HM.out.below L)).mono ?_
                rintro e wq ⟨rfl, hb⟩
                replace L := below_step L hb
                clear hb
                go_wp2_with fail
                go_ret
                exact ⟨rfl, L⟩
end Go.Proofs.YtmpgokijlikddaaGreatDoor.fnNumerals
