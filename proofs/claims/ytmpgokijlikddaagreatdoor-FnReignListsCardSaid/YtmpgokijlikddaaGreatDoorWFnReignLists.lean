/- Void days are in no reign, disputed ones in several, and the years of a king are told: the walk. No condition. -/
import Derived.Test.YtmpgokijlikddaaGreatDoorRows
import Derived.Test.YtmpgokijlikddaaGreatDoorKit
import Derived.Test.YtmpgokijlikddaaGreatDoorRl10
import Derived.Test.YtmpgokijlikddaaGreatDoorRl11
import Derived.Test.YtmpgokijlikddaaGreatDoorRl12
import Derived.Test.YtmpgokijlikddaaGreatDoorDisp
import Derived.Test.YtmpgokijlikddaaGreatDoorRl9
import Derived.Test.YtmpgokijlikddaaGreatDoorRl8
import Derived.Test.YtmpgokijlikddaaGreatDoorRl5
import Derived.Test.YtmpgokijlikddaaGreatDoorMem
import Derived.OpenShut
namespace Go.Proofs.YtmpgokijlikddaaGreatDoor.fnReignLists
open Go.RowKit
set_option linter.unusedVariables false
-- door
-- laid
theorem toBelowC {P : Program} {f : FuncId} {args : Array Value} {w : World} {b b' : Bool} (h : Calls P f args w fun e w' => e = .returned (.tuple #[.bool b, .int .i64 0]) ∧ Below w.heap.size w w') (hb : b = b') : Calls P f args w fun e w' => e = .returned (.tuple #[.bool b', .int .i64 0]) ∧ Below w.heap.size w w' := hb ▸ h
set_option maxRecDepth 100000 in
set_option maxHeartbeats 4000000 in
theorem walk (a : Option Addr) (n c : Nat) (xs : List Int) (hn : n ≤ 9223372036854775807) {w : World} (hI : InB w a n xs) (hx : ∀ i, 0 ≤ xs.getD i 0 ∧ xs.getD i 0 ≤ 255) (_ : World) (_ : w.ShapedOpen Tryz.prog) (ht : Tab w) : Calls Tryz.prog 3 #[.slice a n c] w fun e w' => e = .returned (.bool true) ∧ Below w.heap.size w w' := by
  have con := l_big a n c w
  by_cases hbig : (4096 : Int) < n
  · simp only [hbig, decide_true] at con
    go_enter Tryz.func3, Tryz.ntmps3
    go_wp2_with fail
    refine con.mono ?_
    rintro e w1 ⟨rfl, L1⟩
    go_wp2_with fail
    go_ret
    exact ⟨rfl, L1⟩
  · simp only [hbig, decide_false] at con
    have hn' : n ≤ 4096 := by omega
    have hIB : ∀ W : World, Below w.heap.size w W → InB W a n xs := fun W h => hI.below h
    have hTB : ∀ W : World, Below w.heap.size w W → Tab W := fun W h => ht.of h (Nat.le_refl _)
    have HIB := Lib.hid hIB
    have HTB := Lib.hid hTB
    have HX := Lib.hid hx
    clear hIB hx hI hTB ht
    go_enter Tryz.func3, Tryz.ntmps3
    go_wp2_with fail
    refine con.mono ?_
    rintro e w1 ⟨rfl, L⟩
    clear con hbig
    go_wp2_with fail
    refine (d_VoidDays a n c xs _ (HIB.out _ L) hn' HX.out).mono ?_
    rintro e w2 ⟨⟨vl, rs, f, t, rfl, V, hl, hrs, hvn, _, _, _, _⟩, hb⟩
    replace L := below_step L hb
    clear hb
    obtain ⟨g, cc, rfl, R⟩ := V.lst hvn
    clear V hvn
    have hok := rgB_all hrs
    have iv := fun W (h : Lst W g rs) => i_VoidDays g cc rs f t W h.row (by omega) hok h.lt
    have sv := fun W (h : Lst W g rs) => s_VoidDays g cc rs f t W h.row (by omega) hok h.lt
    have id := fun W (h : Lst W g rs) => i_DisputedDays g cc rs W h.row (by omega) hok h.lt
    have sd := fun W (h : Lst W g rs) => s_DisputedDays g cc rs W h.row (by omega) hok h.lt
    have io := fun m W (h : Lst W g rs) => i_ReignsOn g cc rs m W h.row (by omega) hok h.lt
    obtain ⟨⟨v, B⟩, hv⟩ : ∃ p, vdF rs f t = p := ⟨_, rfl⟩
    obtain ⟨⟨d, E⟩, hd⟩ : ∃ p, ddF rs = p := ⟨_, rfl⟩
    have VL := Lib.hid (vd_law hv)
    have VN := Lib.hid (show v.length ≤ 31 by have := vdF_len rs f t; rw [hv] at this; exact this)
    rw [hv] at iv sv
    rw [hd] at id sd
    dsimp only at iv sv id sd
    have IV := Lib.hid iv
    have SV := Lib.hid sv
    have ID := Lib.hid id
    have SD := Lib.hid sd
    have IQ := Lib.hid io
    obtain ⟨rn, hrn⟩ : ∃ rn, rs.length = rn := ⟨_, rfl⟩
    rw [hrn] at IV SV ID SD IQ hl ⊢
    clear iv sv id sd io hok hrs hv hd hrn
    go_wp2_with fail
    refine (IV.out _ R).mono ?_
    rintro e w3 ⟨v1, rfl, A1, hb⟩
    replace R := R.below hb
    replace L := below_step L hb
    clear hb IV
    go_wp2_with fail
    refine (SV.out _ R).mono ?_
    rintro e w4 ⟨v2, rfl, A2, hb⟩
    replace R := R.below hb
    replace A1 := A1.below hb
    replace L := below_step L hb
    clear hb SV
    go_wp2_with fail
    refine (ID.out _ R).mono ?_
    rintro e w5 ⟨v3, rfl, A3, hb⟩
    replace R := R.below hb
    replace A1 := A1.below hb
    replace A2 := A2.below hb
    replace L := below_step L hb
    clear hb ID
    go_wp2_with fail
    refine (SD.out _ R).mono ?_
    rintro e w6 ⟨v4, rfl, A4, hb⟩
    replace R := R.below hb
    replace A1 := A1.below hb
    replace A2 := A2.below hb
    replace A3 := A3.below hb
    replace L := below_step L hb
    clear hb SD
    go_wp2_with fail
    refine (d_ReignsOn a n c xs _ (HIB.out _ L) hn' HX.out).mono ?_
    rintro e w7 ⟨⟨vl2, rs2, m, rfl, V, hl2, hrs, hvn, m0, m1⟩, hb⟩
    replace R := R.below hb
    replace A1 := A1.below hb
    replace A2 := A2.below hb
    replace A3 := A3.below hb
    replace A4 := A4.below hb
    replace L := below_step L hb
    clear hb
    obtain ⟨g2, c2, rfl, R2⟩ := V.lst hvn
    clear V hvn
    have hok := rgB_all hrs
    have io := fun W (h : Lst W g2 rs2) => i_ReignsOn g2 c2 rs2 m W h.row (by omega) hok h.lt
    have so := fun W (h : Lst W g2 rs2) => s_ReignsOn g2 c2 rs2 m W h.row (by omega) hok h.lt
    have it := fun W (h : Lst W g2 rs2) h' => i_RegnalText g2 c2 rs2 m W h.row (by omega) hok h.lt h'
    have st := fun W (h : Lst W g2 rs2) => s_RegnalText g2 c2 rs2 m W h.row (by omega) hok h.lt
    have ia := fun W (h : Lst W g2 rs2) => i_AreReigns g2 c2 rs2 W h.row (by omega) hok
    have sa := fun W (h : Lst W g2 rs2) => s_AreReigns g2 c2 rs2 W h.row (by omega) hok
    have id := fun W (h : Lst W g2 rs2) => i_DisputedDays g2 c2 rs2 W h.row (by omega) hok h.lt
    obtain ⟨⟨l, T⟩, ho⟩ : ∃ p, onF rs2 m = p := ⟨_, rfl⟩
    obtain ⟨⟨tx, F⟩, htx⟩ : ∃ p, txF rs2 m = p := ⟨_, rfl⟩
    obtain ⟨⟨D, E2⟩, hd⟩ : ∃ p, ddF rs2 = p := ⟨_, rfl⟩
    obtain ⟨ab, hab⟩ : ∃ b, areB rs2 = b := ⟨_, rfl⟩
    have TL := Lib.hid (tx_law ho htx)
    have DL := Lib.hid (dd_law ho hd)
    have OL := Lib.hid (show l.length ≤ 9223372036854775807 by have := onF_len rs2 m; rw [ho] at this; dsimp only at this; omega)
    rw [ho] at io so
    rw [htx] at it st
    rw [hd] at id
    rw [hab] at ia sa
    dsimp only at io so it st id
    have IO2 := Lib.hid io
    have SO := Lib.hid so
    have IT := Lib.hid it
    have ST := Lib.hid st
    have IA := Lib.hid ia
    have SA := Lib.hid sa
    have ID2 := Lib.hid id
    obtain ⟨rn2, hrn⟩ : ∃ rn, rs2.length = rn := ⟨_, rfl⟩
    rw [hrn] at IO2 SO IT ST IA SA ID2 hl2 ⊢
    clear io so it st ia sa id hok hrs ho htx hd hab hrn
    go_wp2_with fail
    refine (IO2.out _ R2).mono ?_
    rintro e w8 ⟨v5, rfl, A5, hb⟩
    replace R := R.below hb
    replace R2 := R2.below hb
    replace A1 := A1.below hb
    replace A2 := A2.below hb
    replace A3 := A3.below hb
    replace A4 := A4.below hb
    replace L := below_step L hb
    clear hb IO2
    go_wp2_with fail
    refine (SO.out _ R2).mono ?_
    rintro e w9 ⟨v6, rfl, A6, hb⟩
    replace R := R.below hb
    replace R2 := R2.below hb
    replace A1 := A1.below hb
    replace A2 := A2.below hb
    replace A3 := A3.below hb
    replace A4 := A4.below hb
    replace A5 := A5.below hb
    replace L := below_step L hb
    clear hb SO
    go_wp2_with fail
    refine (IT.out _ R2 (HTB.out _ L)).mono ?_
    rintro e w10 ⟨rfl, hb⟩
    replace R := R.below hb
    replace R2 := R2.below hb
    replace A1 := A1.below hb
    replace A2 := A2.below hb
    replace A3 := A3.below hb
    replace A4 := A4.below hb
    replace A5 := A5.below hb
    replace A6 := A6.below hb
    replace L := below_step L hb
    clear hb IT
    go_wp2_with fail
    refine (ST.out _ R2).mono ?_
    rintro e w11 ⟨rfl, hb⟩
    replace R := R.below hb
    replace R2 := R2.below hb
    replace A1 := A1.below hb
    replace A2 := A2.below hb
    replace A3 := A3.below hb
    replace A4 := A4.below hb
    replace A5 := A5.below hb
    replace A6 := A6.below hb
    replace L := below_step L hb
    clear hb ST HTB
    go_wp2_with fail
    refine (d_KingSet a n c xs _ (HIB.out _ L) hn' HX.out).mono ?_
    rintro e w12 ⟨⟨vl3, rs3, s, k, rfl, V, hl3, hrs, hvn, hs, k0, k1⟩, hb⟩
    replace R := R.below hb
    replace R2 := R2.below hb
    replace A1 := A1.below hb
    replace A2 := A2.below hb
    replace A3 := A3.below hb
    replace A4 := A4.below hb
    replace A5 := A5.below hb
    replace A6 := A6.below hb
    replace L := below_step L hb
    clear hb
    obtain ⟨g3, c3, rfl, R3⟩ := V.lst hvn
    clear V hvn
    have hok := rgB_all hrs
    have wk : (Lit.int .i64 k).wf = true := wf_i64 (by omega) (by omega)
    have ik := fun W (h : Lst W g3 rs3) => i_KingYearSet g3 c3 rs3 s k wk W h.row (by omega) hok h.lt
    have sk := fun W (h : Lst W g3 rs3) => s_KingYearSet g3 c3 rs3 s k wk W h.row (by omega) hok h.lt
    obtain ⟨⟨ks, KE⟩, hk⟩ : ∃ p, kyF rs3 s.data.toList k = p := ⟨_, rfl⟩
    rw [hk] at ik sk
    dsimp only at ik sk
    have IK := Lib.hid ik
    have SK := Lib.hid sk
    obtain ⟨rn3, hrn⟩ : ∃ rn, rs3.length = rn := ⟨_, rfl⟩
    rw [hrn] at IK SK hl3 ⊢
    clear ik sk hok hrs hk wk hrn
    go_wp2_with fail
    refine (IK.out _ R3).mono ?_
    rintro e w13 ⟨v7, rfl, A7, hb⟩
    replace R := R.below hb
    replace R2 := R2.below hb
    replace R3 := R3.below hb
    replace A1 := A1.below hb
    replace A2 := A2.below hb
    replace A3 := A3.below hb
    replace A4 := A4.below hb
    replace A5 := A5.below hb
    replace A6 := A6.below hb
    replace L := below_step L hb
    clear hb IK
    go_wp2_with fail
    refine (SK.out _ R3).mono ?_
    rintro e w14 ⟨v8, rfl, A8, hb⟩
    replace R := R.below hb
    replace R2 := R2.below hb
    replace A1 := A1.below hb
    replace A2 := A2.below hb
    replace A3 := A3.below hb
    replace A4 := A4.below hb
    replace A5 := A5.below hb
    replace A6 := A6.below hb
    replace A7 := A7.below hb
    replace L := below_step L hb
    clear hb SK R3
    go_wp2_with fail
    refine (likeP_same _ A1 A2).mono ?_
    rintro e w15 ⟨rfl, hb⟩
    replace R := R.below hb
    replace R2 := R2.below hb
    replace A1 := A1.below hb
    replace A3 := A3.below hb
    replace A4 := A4.below hb
    replace A5 := A5.below hb
    replace A6 := A6.below hb
    replace A7 := A7.below hb
    replace A8 := A8.below hb
    replace L := below_step L hb
    clear hb A2
    go_wp2_with fail
    refine (likeP_same _ A3 A4).mono ?_
    rintro e w16 ⟨rfl, hb⟩
    replace R := R.below hb
    replace R2 := R2.below hb
    replace A1 := A1.below hb
    replace A5 := A5.below hb
    replace A6 := A6.below hb
    replace A7 := A7.below hb
    replace A8 := A8.below hb
    replace L := below_step L hb
    clear hb A3 A4
    go_wp2_with fail
    refine (like_same _ A5 A6).mono ?_
    rintro e w17 ⟨rfl, hb⟩
    replace R := R.below hb
    replace R2 := R2.below hb
    replace A1 := A1.below hb
    replace A5 := A5.below hb
    replace A7 := A7.below hb
    replace A8 := A8.below hb
    replace L := below_step L hb
    clear hb A6
    go_wp2_with fail
    refine (likeP_same _ A7 A8).mono ?_
    rintro e w18 ⟨rfl, hb⟩
    replace R := R.below hb
    replace R2 := R2.below hb
    replace A1 := A1.below hb
    replace A5 := A5.below hb
    replace L := below_step L hb
    clear hb A7 A8
    go_wp2_with fail
    refine (IA.out _ R2).mono ?_
    rintro e w19 ⟨rfl, hb⟩
    replace R := R.below hb
    replace R2 := R2.below hb
    replace A1 := A1.below hb
    replace A5 := A5.below hb
    replace L := below_step L hb
    clear hb IA
    go_wp2_with fail
    refine (SA.out _ R2).mono ?_
    rintro e w20 ⟨rfl, hb⟩
    replace R := R.below hb
    replace R2 := R2.below hb
    replace A1 := A1.below hb
    replace A5 := A5.below hb
    replace L := below_step L hb
    clear hb SA
    have L0 := OL.out
    clear OL HIB HX
    obtain ⟨-, A5', c5, rfl, -⟩ := A5.opened
    clear A5
    by_cases hT : T = 0
    · subst hT
      rcases TL.out rfl with ⟨hl0, htx⟩ | ⟨hl0, htx⟩
      · subst hl0
        subst htx
        clear TL
        by_cases hE : E = 0
        · subst hE
          obtain ⟨e1, e2, e3, e4⟩ := DL.out rfl
          subst e1
          clear DL
          go_wp2_with fail
          refine (ID2.out _ R2).mono ?_
          rintro e w21 ⟨vd, rfl, Ad, hb⟩
          replace R := R.below hb
          replace A1 := A1.below hb
          replace L := below_step L hb
          clear hb ID2 R2
          go_wp2_with fail
          refine (toBelowC (i_HasDay m _ Ad e2 e4) (show hasB D m = false from e3)).mono ?_
          rintro e w22 ⟨rfl, hb⟩
          replace R := R.below hb
          replace A1 := A1.below hb
          replace L := below_step L hb
          clear hb Ad e2 e3 e4
          go_wp2_with fail
          by_cases hB : B = 0
          · as_aux_lemma =>
              have LAW := Lib.hid (VL.out hB)
              subst hB
              clear VL
              obtain ⟨-, A, cA, rfl, -⟩ := A1.opened
              have NN := VN.out
              obtain ⟨nv, hnv⟩ : ∃ nv, v.length = nv := ⟨_, rfl⟩
              rw [hnv] at LAW NN A1 ⊢
              have NV := Lib.hid hnv
              clear hnv VN
              go_wp2_with fail
              go_loopw [35] (fun i wr => ∃ k : Nat, k ≤ nv ∧ i = .int .i64 k ∧ OwnP wr w2.heap.size (.slice A nv cA) v ∧ Lst wr g rs ∧ Below w.heap.size w wr) (fun i _ => nv - (intOf i).toNat)
              case atStart => exact ⟨0, by omega, rfl, A1, R, L⟩
              case round =>
                clear A1 R L
                obtain ⟨kk, hk, rfl, hA, hR, hL⟩ := hrel
                by_cases hlt : kk < nv
                · obtain ⟨-, hP⟩ := hA.at_
                  obtain ⟨g1, rfl, -, hg1, hc1, -⟩ := hP (by rw [NV.out]; omega)
                  obtain ⟨x0, x1⟩ := hc1 kk (by rw [NV.out]; exact hlt)
                  obtain ⟨l1, l2, l3⟩ := LAW.out kk hlt
                  obtain ⟨sx, hsx⟩ : ∃ s, v.getD kk sp0 = s := ⟨_, rfl⟩
                  rw [hsx] at x0 x1 l1 l2 l3
                  obtain ⟨x, y⟩ := sx
                  dsimp only at x0 x1 l1 l2 l3
                  have con := IQ.out x wr hR
                  rw [l3] at con
                  dsimp only at con
                  have CON := Lib.hid con
                  clear con l3 hc1 hP hsx
                  go_wp2_with fail
                  refine CON.out.mono ?_
                  rintro e w30 ⟨vn, rfl, An, hb⟩
                  obtain ⟨-, An', cn, rfl, -⟩ := An.opened
                  have y0 := (hb.cell (p := ⟨g1, kk * 2, none⟩) hg1).trans x0
                  have y1 := (hb.cell (p := ⟨g1, kk * 2 + 1, none⟩) hg1).trans x1
                  have hgb := Nat.lt_of_lt_of_le hg1 hb.size
                  replace hL := below_step hL hb
                  replace hA := hA.below hb
                  replace hR := hR.below hb
                  clear x0 x1 hb CON An
                  go_wp2_with fail
                  go_roundw
                  case rel => exact ⟨kk + 1, by omega, by go_num, hA, hR, hL⟩
                  case measure => simp [intOf]; omega
                · obtain rfl : kk = nv := by omega
                  go_wp2_with fail
                  go_ret
                  exact ⟨rfl, hL⟩
          · clear VL VN
            obtain ⟨-, A, cA, rfl, -⟩ := A1.opened
            go_wp2_with fail
            go_loopw [35] (fun i wr => i = .int .i64 0 ∧ Below w.heap.size w wr) (fun _ _ => 0)
            case atStart => exact ⟨rfl, L⟩
            case round =>
              clear L
              obtain ⟨rfl, hL⟩ := hrel
              go_wp2_with fail
              go_ret
              exact ⟨rfl, hL⟩
        · clear DL ID2 R2
          go_wp2_with fail
          by_cases hB : B = 0
          · as_aux_lemma =>
              have LAW := Lib.hid (VL.out hB)
              subst hB
              clear VL
              obtain ⟨-, A, cA, rfl, -⟩ := A1.opened
              have NN := VN.out
              obtain ⟨nv, hnv⟩ : ∃ nv, v.length = nv := ⟨_, rfl⟩
              rw [hnv] at LAW NN A1 ⊢
              have NV := Lib.hid hnv
              clear hnv VN
              go_wp2_with fail
              go_loopw [35] (fun i wr => ∃ k : Nat, k ≤ nv ∧ i = .int .i64 k ∧ OwnP wr w2.heap.size (.slice A nv cA) v ∧ Lst wr g rs ∧ Below w.heap.size w wr) (fun i _ => nv - (intOf i).toNat)
              case atStart => exact ⟨0, by omega, rfl, A1, R, L⟩
              case round =>
                clear A1 R L
                obtain ⟨kk, hk, rfl, hA, hR, hL⟩ := hrel
                by_cases hlt : kk < nv
                · obtain ⟨-, hP⟩ := hA.at_
                  obtain ⟨g1, rfl, -, hg1, hc1, -⟩ := hP (by rw [NV.out]; omega)
                  obtain ⟨x0, x1⟩ := hc1 kk (by rw [NV.out]; exact hlt)
                  obtain ⟨l1, l2, l3⟩ := LAW.out kk hlt
                  obtain ⟨sx, hsx⟩ : ∃ s, v.getD kk sp0 = s := ⟨_, rfl⟩
                  rw [hsx] at x0 x1 l1 l2 l3
                  obtain ⟨x, y⟩ := sx
                  dsimp only at x0 x1 l1 l2 l3
                  have con := IQ.out x wr hR
                  rw [l3] at con
                  dsimp only at con
                  have CON := Lib.hid con
                  clear con l3 hc1 hP hsx
                  go_wp2_with fail
                  refine CON.out.mono ?_
                  rintro e w30 ⟨vn, rfl, An, hb⟩
                  obtain ⟨-, An', cn, rfl, -⟩ := An.opened
                  have y0 := (hb.cell (p := ⟨g1, kk * 2, none⟩) hg1).trans x0
                  have y1 := (hb.cell (p := ⟨g1, kk * 2 + 1, none⟩) hg1).trans x1
                  have hgb := Nat.lt_of_lt_of_le hg1 hb.size
                  replace hL := below_step hL hb
                  replace hA := hA.below hb
                  replace hR := hR.below hb
                  clear x0 x1 hb CON An
                  go_wp2_with fail
                  go_roundw
                  case rel => exact ⟨kk + 1, by omega, by go_num, hA, hR, hL⟩
                  case measure => simp [intOf]; omega
                · obtain rfl : kk = nv := by omega
                  go_wp2_with fail
                  go_ret
                  exact ⟨rfl, hL⟩
          · clear VL VN
            obtain ⟨-, A, cA, rfl, -⟩ := A1.opened
            go_wp2_with fail
            go_loopw [35] (fun i wr => i = .int .i64 0 ∧ Below w.heap.size w wr) (fun _ _ => 0)
            case atStart => exact ⟨rfl, L⟩
            case round =>
              clear L
              obtain ⟨rfl, hL⟩ := hrel
              go_wp2_with fail
              go_ret
              exact ⟨rfl, hL⟩
      · have t1 : decide (tx = [45]) = false := by simpa using htx
        have t2 : decide ((⟨tx.toArray⟩ : ByteArray) = ⟨[45].toArray⟩) = false := by simpa using htx
        have t3 : (tx == [45]) = false := by simpa using htx
        have hlp : 0 < l.length := by cases l with | nil => exact absurd rfl hl0 | cons => simp
        have t4 : ((l.length : Int) == 0) = false := by simp; omega
        have t5 : ¬ (l.length : Int) = 0 := by omega
        clear hl0 TL
        by_cases hE : E = 0
        · subst hE
          obtain ⟨e1, e2, e3, e4⟩ := DL.out rfl
          subst e1
          clear DL
          by_cases h1l : 1 < l.length
          · rw [decide_eq_true h1l] at e3
            have h1i : (1 : Int) < (l.length : Int) := by omega
            obtain ⟨nl, hnl⟩ : ∃ nl, l.length = nl := ⟨_, rfl⟩
            rw [hnl] at hlp t4 t5 h1l h1i L0 ⊢
            clear hnl
            go_wp2_with fail
            refine (ID2.out _ R2).mono ?_
            rintro e w21 ⟨vd, rfl, Ad, hb⟩
            replace R := R.below hb
            replace A1 := A1.below hb
            replace L := below_step L hb
            clear hb ID2 R2
            go_wp2_with fail
            refine (toBelowC (i_HasDay m _ Ad e2 e4) e3).mono ?_
            rintro e w22 ⟨rfl, hb⟩
            replace R := R.below hb
            replace A1 := A1.below hb
            replace L := below_step L hb
            clear hb Ad e2 e3 e4
            go_wp2_with fail
            by_cases hB : B = 0
            · as_aux_lemma =>
                have LAW := Lib.hid (VL.out hB)
                subst hB
                clear VL
                obtain ⟨-, A, cA, rfl, -⟩ := A1.opened
                have NN := VN.out
                obtain ⟨nv, hnv⟩ : ∃ nv, v.length = nv := ⟨_, rfl⟩
                rw [hnv] at LAW NN A1 ⊢
                have NV := Lib.hid hnv
                clear hnv VN
                go_wp2_with fail
                go_loopw [35] (fun i wr => ∃ k : Nat, k ≤ nv ∧ i = .int .i64 k ∧ OwnP wr w2.heap.size (.slice A nv cA) v ∧ Lst wr g rs ∧ Below w.heap.size w wr) (fun i _ => nv - (intOf i).toNat)
                case atStart => exact ⟨0, by omega, rfl, A1, R, L⟩
                case round =>
                  clear A1 R L
                  obtain ⟨kk, hk, rfl, hA, hR, hL⟩ := hrel
                  by_cases hlt : kk < nv
                  · obtain ⟨-, hP⟩ := hA.at_
                    obtain ⟨g1, rfl, -, hg1, hc1, -⟩ := hP (by rw [NV.out]; omega)
                    obtain ⟨x0, x1⟩ := hc1 kk (by rw [NV.out]; exact hlt)
                    obtain ⟨l1, l2, l3⟩ := LAW.out kk hlt
                    obtain ⟨sx, hsx⟩ : ∃ s, v.getD kk sp0 = s := ⟨_, rfl⟩
                    rw [hsx] at x0 x1 l1 l2 l3
                    obtain ⟨x, y⟩ := sx
                    dsimp only at x0 x1 l1 l2 l3
                    have con := IQ.out x wr hR
                    rw [l3] at con
                    dsimp only at con
                    have CON := Lib.hid con
                    clear con l3 hc1 hP hsx
                    go_wp2_with fail
                    refine CON.out.mono ?_
                    rintro e w30 ⟨vn, rfl, An, hb⟩
                    obtain ⟨-, An', cn, rfl, -⟩ := An.opened
                    have y0 := (hb.cell (p := ⟨g1, kk * 2, none⟩) hg1).trans x0
                    have y1 := (hb.cell (p := ⟨g1, kk * 2 + 1, none⟩) hg1).trans x1
                    have hgb := Nat.lt_of_lt_of_le hg1 hb.size
                    replace hL := below_step hL hb
                    replace hA := hA.below hb
                    replace hR := hR.below hb
                    clear x0 x1 hb CON An
                    go_wp2_with fail
                    go_roundw
                    case rel => exact ⟨kk + 1, by omega, by go_num, hA, hR, hL⟩
                    case measure => simp [intOf]; omega
                  · obtain rfl : kk = nv := by omega
                    go_wp2_with fail
                    go_ret
                    exact ⟨rfl, hL⟩
            · clear VL VN
              obtain ⟨-, A, cA, rfl, -⟩ := A1.opened
              go_wp2_with fail
              go_loopw [35] (fun i wr => i = .int .i64 0 ∧ Below w.heap.size w wr) (fun _ _ => 0)
              case atStart => exact ⟨rfl, L⟩
              case round =>
                clear L
                obtain ⟨rfl, hL⟩ := hrel
                go_wp2_with fail
                go_ret
                exact ⟨rfl, hL⟩
          · rw [decide_eq_false h1l] at e3
            have h1i : (l.length : Int) ≤ 1 := by omega
            have h1n : l.length ≤ 1 := by omega
            clear h1l
            obtain ⟨nl, hnl⟩ : ∃ nl, l.length = nl := ⟨_, rfl⟩
            rw [hnl] at hlp t4 t5 h1i h1n L0 ⊢
            clear hnl
            go_wp2_with fail
            refine (ID2.out _ R2).mono ?_
            rintro e w21 ⟨vd, rfl, Ad, hb⟩
            replace R := R.below hb
            replace A1 := A1.below hb
            replace L := below_step L hb
            clear hb ID2 R2
            go_wp2_with fail
            refine (toBelowC (i_HasDay m _ Ad e2 e4) e3).mono ?_
            rintro e w22 ⟨rfl, hb⟩
            replace R := R.below hb
            replace A1 := A1.below hb
            replace L := below_step L hb
            clear hb Ad e2 e3 e4
            go_wp2_with fail
            by_cases hB : B = 0
            · as_aux_lemma =>
                have LAW := Lib.hid (VL.out hB)
                subst hB
                clear VL
                obtain ⟨-, A, cA, rfl, -⟩ := A1.opened
                have NN := VN.out
                obtain ⟨nv, hnv⟩ : ∃ nv, v.length = nv := ⟨_, rfl⟩
                rw [hnv] at LAW NN A1 ⊢
                have NV := Lib.hid hnv
                clear hnv VN
                go_wp2_with fail
                go_loopw [35] (fun i wr => ∃ k : Nat, k ≤ nv ∧ i = .int .i64 k ∧ OwnP wr w2.heap.size (.slice A nv cA) v ∧ Lst wr g rs ∧ Below w.heap.size w wr) (fun i _ => nv - (intOf i).toNat)
                case atStart => exact ⟨0, by omega, rfl, A1, R, L⟩
                case round =>
                  clear A1 R L
                  obtain ⟨kk, hk, rfl, hA, hR, hL⟩ := hrel
                  by_cases hlt : kk < nv
                  · obtain ⟨-, hP⟩ := hA.at_
                    obtain ⟨g1, rfl, -, hg1, hc1, -⟩ := hP (by rw [NV.out]; omega)
                    obtain ⟨x0, x1⟩ := hc1 kk (by rw [NV.out]; exact hlt)
                    obtain ⟨l1, l2, l3⟩ := LAW.out kk hlt
                    obtain ⟨sx, hsx⟩ : ∃ s, v.getD kk sp0 = s := ⟨_, rfl⟩
                    rw [hsx] at x0 x1 l1 l2 l3
                    obtain ⟨x, y⟩ := sx
                    dsimp only at x0 x1 l1 l2 l3
                    have con := IQ.out x wr hR
                    rw [l3] at con
                    dsimp only at con
                    have CON := Lib.hid con
                    clear con l3 hc1 hP hsx
                    go_wp2_with fail
                    refine CON.out.mono ?_
                    rintro e w30 ⟨vn, rfl, An, hb⟩
                    obtain ⟨-, An', cn, rfl, -⟩ := An.opened
                    have y0 := (hb.cell (p := ⟨g1, kk * 2, none⟩) hg1).trans x0
                    have y1 := (hb.cell (p := ⟨g1, kk * 2 + 1, none⟩) hg1).trans x1
                    have hgb := Nat.lt_of_lt_of_le hg1 hb.size
                    replace hL := below_step hL hb
                    replace hA := hA.below hb
                    replace hR := hR.below hb
                    clear x0 x1 hb CON An
                    go_wp2_with fail
                    go_roundw
                    case rel => exact ⟨kk + 1, by omega, by go_num, hA, hR, hL⟩
                    case measure => simp [intOf]; omega
                  · obtain rfl : kk = nv := by omega
                    go_wp2_with fail
                    go_ret
                    exact ⟨rfl, hL⟩
            · clear VL VN
              obtain ⟨-, A, cA, rfl, -⟩ := A1.opened
              go_wp2_with fail
              go_loopw [35] (fun i wr => i = .int .i64 0 ∧ Below w.heap.size w wr) (fun _ _ => 0)
              case atStart => exact ⟨rfl, L⟩
              case round =>
                clear L
                obtain ⟨rfl, hL⟩ := hrel
                go_wp2_with fail
                go_ret
                exact ⟨rfl, hL⟩
        · clear DL ID2 R2
          go_wp2_with fail
          by_cases hB : B = 0
          · as_aux_lemma =>
              have LAW := Lib.hid (VL.out hB)
              subst hB
              clear VL
              obtain ⟨-, A, cA, rfl, -⟩ := A1.opened
              have NN := VN.out
              obtain ⟨nv, hnv⟩ : ∃ nv, v.length = nv := ⟨_, rfl⟩
              rw [hnv] at LAW NN A1 ⊢
              have NV := Lib.hid hnv
              clear hnv VN
              go_wp2_with fail
              go_loopw [35] (fun i wr => ∃ k : Nat, k ≤ nv ∧ i = .int .i64 k ∧ OwnP wr w2.heap.size (.slice A nv cA) v ∧ Lst wr g rs ∧ Below w.heap.size w wr) (fun i _ => nv - (intOf i).toNat)
              case atStart => exact ⟨0, by omega, rfl, A1, R, L⟩
              case round =>
                clear A1 R L
                obtain ⟨kk, hk, rfl, hA, hR, hL⟩ := hrel
                by_cases hlt : kk < nv
                · obtain ⟨-, hP⟩ := hA.at_
                  obtain ⟨g1, rfl, -, hg1, hc1, -⟩ := hP (by rw [NV.out]; omega)
                  obtain ⟨x0, x1⟩ := hc1 kk (by rw [NV.out]; exact hlt)
                  obtain ⟨l1, l2, l3⟩ := LAW.out kk hlt
                  obtain ⟨sx, hsx⟩ : ∃ s, v.getD kk sp0 = s := ⟨_, rfl⟩
                  rw [hsx] at x0 x1 l1 l2 l3
                  obtain ⟨x, y⟩ := sx
                  dsimp only at x0 x1 l1 l2 l3
                  have con := IQ.out x wr hR
                  rw [l3] at con
                  dsimp only at con
                  have CON := Lib.hid con
                  clear con l3 hc1 hP hsx
                  go_wp2_with fail
                  refine CON.out.mono ?_
                  rintro e w30 ⟨vn, rfl, An, hb⟩
                  obtain ⟨-, An', cn, rfl, -⟩ := An.opened
                  have y0 := (hb.cell (p := ⟨g1, kk * 2, none⟩) hg1).trans x0
                  have y1 := (hb.cell (p := ⟨g1, kk * 2 + 1, none⟩) hg1).trans x1
                  have hgb := Nat.lt_of_lt_of_le hg1 hb.size
                  replace hL := below_step hL hb
                  replace hA := hA.below hb
                  replace hR := hR.below hb
                  clear x0 x1 hb CON An
                  go_wp2_with fail
                  go_roundw
                  case rel => exact ⟨kk + 1, by omega, by go_num, hA, hR, hL⟩
                  case measure => simp [intOf]; omega
                · obtain rfl : kk = nv := by omega
                  go_wp2_with fail
                  go_ret
                  exact ⟨rfl, hL⟩
          · clear VL VN
            obtain ⟨-, A, cA, rfl, -⟩ := A1.opened
            go_wp2_with fail
            go_loopw [35] (fun i wr => i = .int .i64 0 ∧ Below w.heap.size w wr) (fun _ _ => 0)
            case atStart => exact ⟨rfl, L⟩
            case round =>
              clear L
              obtain ⟨rfl, hL⟩ := hrel
              go_wp2_with fail
              go_ret
              exact ⟨rfl, hL⟩
    · clear DL TL ID2 R2
      have hTb : (T == 0) = false := by simpa using hT
      by_cases hE : E = 0
      · subst hE
        go_wp2_with fail
        by_cases hB : B = 0
        · as_aux_lemma =>
            have LAW := Lib.hid (VL.out hB)
            subst hB
            clear VL
            obtain ⟨-, A, cA, rfl, -⟩ := A1.opened
            have NN := VN.out
            obtain ⟨nv, hnv⟩ : ∃ nv, v.length = nv := ⟨_, rfl⟩
            rw [hnv] at LAW NN A1 ⊢
            have NV := Lib.hid hnv
            clear hnv VN
            go_wp2_with fail
            go_loopw [35] (fun i wr => ∃ k : Nat, k ≤ nv ∧ i = .int .i64 k ∧ OwnP wr w2.heap.size (.slice A nv cA) v ∧ Lst wr g rs ∧ Below w.heap.size w wr) (fun i _ => nv - (intOf i).toNat)
            case atStart => exact ⟨0, by omega, rfl, A1, R, L⟩
            case round =>
              clear A1 R L
              obtain ⟨kk, hk, rfl, hA, hR, hL⟩ := hrel
              by_cases hlt : kk < nv
              · obtain ⟨-, hP⟩ := hA.at_
                obtain ⟨g1, rfl, -, hg1, hc1, -⟩ := hP (by rw [NV.out]; omega)
                obtain ⟨x0, x1⟩ := hc1 kk (by rw [NV.out]; exact hlt)
                obtain ⟨l1, l2, l3⟩ := LAW.out kk hlt
                obtain ⟨sx, hsx⟩ : ∃ s, v.getD kk sp0 = s := ⟨_, rfl⟩
                rw [hsx] at x0 x1 l1 l2 l3
                obtain ⟨x, y⟩ := sx
                dsimp only at x0 x1 l1 l2 l3
                have con := IQ.out x wr hR
                rw [l3] at con
                dsimp only at con
                have CON := Lib.hid con
                clear con l3 hc1 hP hsx
                go_wp2_with fail
                refine CON.out.mono ?_
                rintro e w30 ⟨vn, rfl, An, hb⟩
                obtain ⟨-, An', cn, rfl, -⟩ := An.opened
                have y0 := (hb.cell (p := ⟨g1, kk * 2, none⟩) hg1).trans x0
                have y1 := (hb.cell (p := ⟨g1, kk * 2 + 1, none⟩) hg1).trans x1
                have hgb := Nat.lt_of_lt_of_le hg1 hb.size
                replace hL := below_step hL hb
                replace hA := hA.below hb
                replace hR := hR.below hb
                clear x0 x1 hb CON An
                go_wp2_with fail
                go_roundw
                case rel => exact ⟨kk + 1, by omega, by go_num, hA, hR, hL⟩
                case measure => simp [intOf]; omega
              · obtain rfl : kk = nv := by omega
                go_wp2_with fail
                go_ret
                exact ⟨rfl, hL⟩
        · clear VL VN
          obtain ⟨-, A, cA, rfl, -⟩ := A1.opened
          go_wp2_with fail
          go_loopw [35] (fun i wr => i = .int .i64 0 ∧ Below w.heap.size w wr) (fun _ _ => 0)
          case atStart => exact ⟨rfl, L⟩
          case round =>
            clear L
            obtain ⟨rfl, hL⟩ := hrel
            go_wp2_with fail
            go_ret
            exact ⟨rfl, hL⟩
      · have hEb : (E == 0) = false := by simpa using hE
        go_wp2_with fail
        by_cases hB : B = 0
        · as_aux_lemma =>
            have LAW := Lib.hid (VL.out hB)
            subst hB
            clear VL
            obtain ⟨-, A, cA, rfl, -⟩ := A1.opened
            have NN := VN.out
            obtain ⟨nv, hnv⟩ : ∃ nv, v.length = nv := ⟨_, rfl⟩
            rw [hnv] at LAW NN A1 ⊢
            have NV := Lib.hid hnv
            clear hnv VN
            go_wp2_with fail
            go_loopw [35] (fun i wr => ∃ k : Nat, k ≤ nv ∧ i = .int .i64 k ∧ OwnP wr w2.heap.size (.slice A nv cA) v ∧ Lst wr g rs ∧ Below w.heap.size w wr) (fun i _ => nv - (intOf i).toNat)
            case atStart => exact ⟨0, by omega, rfl, A1, R, L⟩
            case round =>
              clear A1 R L
              obtain ⟨kk, hk, rfl, hA, hR, hL⟩ := hrel
              by_cases hlt : kk < nv
              · obtain ⟨-, hP⟩ := hA.at_
                obtain ⟨g1, rfl, -, hg1, hc1, -⟩ := hP (by rw [NV.out]; omega)
                obtain ⟨x0, x1⟩ := hc1 kk (by rw [NV.out]; exact hlt)
                obtain ⟨l1, l2, l3⟩ := LAW.out kk hlt
                obtain ⟨sx, hsx⟩ : ∃ s, v.getD kk sp0 = s := ⟨_, rfl⟩
                rw [hsx] at x0 x1 l1 l2 l3
                obtain ⟨x, y⟩ := sx
                dsimp only at x0 x1 l1 l2 l3
                have con := IQ.out x wr hR
                rw [l3] at con
                dsimp only at con
                have CON := Lib.hid con
                clear con l3 hc1 hP hsx
                go_wp2_with fail
                refine CON.out.mono ?_
                rintro e w30 ⟨vn, rfl, An, hb⟩
                obtain ⟨-, An', cn, rfl, -⟩ := An.opened
                have y0 := (hb.cell (p := ⟨g1, kk * 2, none⟩) hg1).trans x0
                have y1 := (hb.cell (p := ⟨g1, kk * 2 + 1, none⟩) hg1).trans x1
                have hgb := Nat.lt_of_lt_of_le hg1 hb.size
                replace hL := below_step hL hb
                replace hA := hA.below hb
                replace hR := hR.below hb
                clear x0 x1 hb CON An
                go_wp2_with fail
                go_roundw
                case rel => exact ⟨kk + 1, by omega, by go_num, hA, hR, hL⟩
                case measure => simp [intOf]; omega
              · obtain rfl : kk = nv := by omega
                go_wp2_with fail
                go_ret
                exact ⟨rfl, hL⟩
        · clear VL VN
          obtain ⟨-, A, cA, rfl, -⟩ := A1.opened
          go_wp2_with fail
          go_loopw [35] (fun i wr => i = .int .i64 0 ∧ Below w.heap.size w wr) (fun _ _ => 0)
          case atStart => exact ⟨rfl, L⟩
          case round =>
            clear L
            obtain ⟨rfl, hL⟩ := hrel
            go_wp2_with fail
            go_ret
            exact ⟨rfl, hL⟩
end Go.Proofs.YtmpgokijlikddaaGreatDoor.fnReignLists
