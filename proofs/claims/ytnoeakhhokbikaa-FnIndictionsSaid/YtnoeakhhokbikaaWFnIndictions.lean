/- The indiction of a day is the same again after fifteen years, and days with an indiction have it: the walk. No condition. -/
import Derived.Test.YtnoeakhhokbikaaRows
import Derived.Test.YtnoeakhhokbikaaKit
import Derived.Test.YtnoeakhhokbikaaIndDays2
import Derived.Test.YtnoeakhhokbikaaIndLaw
import Derived.Test.YtnoeakhhokbikaaHeldP
import Derived.Test.YtnoeakhhokbikaaDrawI
import Derived.Test.YtnoeakhhokbikaaDrawY
import Derived.Test.YtnoeakhhokbikaaDice
import Derived.Test.YtnoeakhhokbikaaHas
import Derived.Test.YtnoeakhhokbikaaMem
namespace Go.Proofs.Ytnoeakhhokbikaa.fnIndictions
open Go.RowKit
set_option linter.unusedVariables false
theorem year_bd {y I T : Int} (h : indF y = (I, T)) : T = 0 → 1 ≤ y ∧ y ≤ 2000 := by
  rintro rfl
  unfold indF at h
  split at h
  · rename_i hh
    exact inB_iff.1 hh
  · simp at h
set_option maxRecDepth 100000 in
set_option maxHeartbeats 4000000 in
theorem walk (a : Option Addr) (n c : Nat) (xs : List Int) (hn : n ≤ 9223372036854775807) {w : World} (hI : InB w a n xs) (hx : ∀ i, 0 ≤ xs.getD i 0 ∧ xs.getD i 0 ≤ 255) (_ : World) : Calls Try.prog 4 #[.slice a n c] w fun e w' => e = .returned (.bool true) ∧ Below w.heap.size w w' := by
  have con := l_big' a n c w
  by_cases hbig : (4096 : Int) < n
  · simp only [hbig, decide_true] at con
    go_enter Try.func4, Try.ntmps4
    go_wp2_with fail
    refine con.mono ?_
    rintro e w1 ⟨rfl, L1⟩
    go_wp2_with fail
    go_ret
    exact ⟨rfl, L1⟩
  · simp only [hbig, decide_false] at con
    have hn' : n ≤ 4096 := by omega
    have hIB : ∀ W : World, Below w.heap.size w W → InB W a n xs := fun W h => hI.below h
    have HIB := Lib.hid hIB
    have HX := Lib.hid hx
    clear hIB hx hI
    go_enter Try.func4, Try.ntmps4
    go_wp2_with fail
    refine con.mono ?_
    rintro e w1 ⟨rfl, L⟩
    clear con hbig
    go_wp2_with fail
    refine (d_IndictionOn a n c xs _ (HIB.out _ L) hn' HX.out).mono ?_
    rintro e w2 ⟨⟨k0, n0, rfl⟩, hb⟩
    replace L := below_step L hb
    clear hb
    have is := fun W => i_IndictionOn k0 n0 W
    have ss := fun W => s_IndictionOn k0 n0 W
    obtain ⟨⟨X, B⟩, hXB⟩ : ∃ p, indOnF k0 n0 = p := ⟨_, rfl⟩
    have BD := Lib.hid (ind_bd hXB)
    rw [hXB] at is ss
    dsimp only at is ss
    have IS := Lib.hid is
    have SS := Lib.hid ss
    clear is ss hXB
    go_wp2_with fail
    refine (IS.out _).mono ?_
    rintro e w3 ⟨rfl, hb⟩
    replace L := below_step L hb
    clear hb IS
    go_wp2_with fail
    refine (SS.out _).mono ?_
    rintro e w4 ⟨rfl, hb⟩
    replace L := below_step L hb
    clear hb SS
    go_wp2_with fail
    refine (d_IndictionDays a n c xs _ (HIB.out _ L) hn' HX.out).mono ?_
    rintro e w5 ⟨⟨k, i, f, t, rfl⟩, hb⟩
    replace L := below_step L hb
    clear hb
    have is := fun W => i_IndictionDays k i f t W
    have ss := fun W => s_IndictionDays k i f t W
    obtain ⟨⟨l, E⟩, hlE⟩ : ∃ p, idF k i f t = p := ⟨_, rfl⟩
    have LAW := Lib.hid (ind_day hlE)
    rw [hlE] at is ss
    dsimp only at is ss
    have IS := Lib.hid is
    have SS := Lib.hid ss
    clear is ss hlE
    go_wp2_with fail
    refine (IS.out _).mono ?_
    rintro e w6 ⟨v1, rfl, V1, hb⟩
    replace L := below_step L hb
    clear hb IS
    go_wp2_with fail
    refine (SS.out _).mono ?_
    rintro e w7 ⟨v2, rfl, V2, hb⟩
    replace V1 := V1.below hb
    replace L := below_step L hb
    clear hb SS
    go_wp2_with fail
    refine (d_IndictionOf a n c xs _ (HIB.out _ L) hn' HX.out).mono ?_
    rintro e w8 ⟨⟨y, rfl, y0, y1⟩, hb⟩
    replace V1 := V1.below hb
    replace V2 := V2.below hb
    replace L := below_step L hb
    clear hb
    have is := fun W => i_IndictionOf y W
    have ss := fun W => s_IndictionOf y W
    obtain ⟨⟨I, T⟩, hIT⟩ : ∃ p, indF y = p := ⟨_, rfl⟩
    have NX := Lib.hid (ind_next hIT)
    have YB := Lib.hid (year_bd hIT)
    rw [hIT] at is ss
    dsimp only at is ss
    have IS := Lib.hid is
    have SS := Lib.hid ss
    clear is ss hIT
    go_wp2_with fail
    refine (IS.out _).mono ?_
    rintro e w9 ⟨rfl, rfl⟩
    clear IS
    go_wp2_with fail
    refine (SS.out _).mono ?_
    rintro e w10 ⟨rfl, rfl⟩
    clear SS
    go_wp2_with fail
    refine (likeP_same _ V1 V2).mono ?_
    rintro e w11 ⟨rfl, hb⟩
    replace V1 := V1.below hb
    replace L := below_step L hb
    clear hb V2
    by_cases hE : E = 0
    · obtain ⟨f0, ft, t1, tg, lnorm, llen, lb, lday⟩ := LAW.out hE
      subst hE
      clear LAW
      have SP := Lib.hid (show setP l from ⟨lnorm, by omega, lb⟩)
      have LD := Lib.hid lday
      clear lnorm llen lb lday
      go_wp2_with fail
      refine (l_roll 801 a n c xs _ (HIB.out _ L) hn' HX.out).mono ?_
      rintro e w12 ⟨rfl, D, hb⟩
      have HVX := V1.ne_top
      replace V1 := V1.below hb
      have L2 := below_step L hb
      have hLz := L.size
      clear hb
      go_wp2_with fail
      refine (l_below _ _ _ _ _ (t - f + 1) _ (by omega) D).mono ?_
      rintro e w13 ⟨⟨r, rfl, r0, r1⟩, _, O⟩
      have V := V1.kept (row := some w11.heap.size) ⟨O.os, O.tape, O.output, O.size, fun b hb hne => O.block b hb (fun e => hne (by rw [e]))⟩ (.inr HVX)
      replace L2 := Off.below L2 O L2.size hLz
      obtain ⟨x, hx1, hx2⟩ := LD.out (f + r) (by omega) (by omega)
      have ch := i_HasDay (f + r) _ V SP.out (inB_iff.2 ⟨by omega, by omega⟩)
      have co := fun W => i_IndictionOn k (f + r) W
      rw [hx1] at co
      dsimp only at co
      have CO := Lib.hid co
      clear co hx1 LD SP D O V1
      replace L := L2
      clear L2
      by_cases hxi : x = i
      · have hh : hasB l (f + r) = true := hasB_cov.2 (hx2.2 hxi)
        rw [hh] at ch
        have CH := Lib.hid ch
        clear ch hh hx2
        subst hxi
        go_wp2_with fail
        refine CH.out.mono ?_
        rintro e w14 ⟨rfl, hb⟩
        replace L := below_step L hb
        clear hb
        go_wp2_with fail
        refine (CO.out _).mono ?_
        rintro e w15 ⟨rfl, hb⟩
        replace L := below_step L hb
        clear hb CO CH
        by_cases hT : T = 0
        · obtain ⟨ya, yb⟩ := YB.out hT
          by_cases hy : y ≤ 1985
          · obtain ⟨n1, n2, i0, i1⟩ := NX.out hT hy
            subst hT
            have ca := fun W => i_IndictionOf (y + 15) W
            have cb := fun W => i_IndictionOf (y + 1) W
            rw [n1] at ca
            rw [n2] at cb
            dsimp only at ca cb
            have CA := Lib.hid ca
            have CB := Lib.hid cb
            clear ca cb n1 n2
            go_wp2_with fail
            refine (CA.out _).mono ?_
            rintro e wa ⟨rfl, rfl⟩
            go_wp2_with fail
            refine (CB.out _).mono ?_
            rintro e wb ⟨rfl, rfl⟩
            by_cases hB : B = 0
            · obtain ⟨b0, b1⟩ := BD.out hB
              subst hB
              go_wp2_with fail
              go_ret
              exact ⟨rfl, L⟩
            · have hB' : decide (B = 0) = false := by simp [hB]
              go_wp2_with fail
              go_ret
              refine ⟨?_, L⟩
              first | (simp; done) | simp [hB]
          · subst hT
            have hy' : decide (y ≤ 1985) = false := by simp [hy]
            have hy2 : 1985 < y := by omega
            clear hy
            by_cases hB : B = 0
            · obtain ⟨b0, b1⟩ := BD.out hB
              subst hB
              go_wp2_with fail
              go_ret
              exact ⟨rfl, L⟩
            · have hB' : decide (B = 0) = false := by simp [hB]
              go_wp2_with fail
              go_ret
              refine ⟨?_, L⟩
              first | (simp; done) | simp [hB]
        · have hT' : decide (T = 0) = false := by simp [hT]
          by_cases hB : B = 0
          · obtain ⟨b0, b1⟩ := BD.out hB
            subst hB
            go_wp2_with fail
            go_ret
            exact ⟨rfl, L⟩
          · have hB' : decide (B = 0) = false := by simp [hB]
            go_wp2_with fail
            go_ret
            refine ⟨?_, L⟩
            first | (simp; done) | simp [hB]
      · have hh : hasB l (f + r) = false := by
          cases h : hasB l (f + r) with
          | false => rfl
          | true => exact absurd (hx2.1 (hasB_cov.1 h)) hxi
        rw [hh] at ch
        have CH := Lib.hid ch
        clear ch hh hx2
        have hxi' : decide (x = i) = false := by simp [hxi]
        go_wp2_with fail
        refine CH.out.mono ?_
        rintro e w14 ⟨rfl, hb⟩
        replace L := below_step L hb
        clear hb
        go_wp2_with fail
        refine (CO.out _).mono ?_
        rintro e w15 ⟨rfl, hb⟩
        replace L := below_step L hb
        clear hb CO CH
        by_cases hT : T = 0
        · obtain ⟨ya, yb⟩ := YB.out hT
          by_cases hy : y ≤ 1985
          · obtain ⟨n1, n2, i0, i1⟩ := NX.out hT hy
            subst hT
            have ca := fun W => i_IndictionOf (y + 15) W
            have cb := fun W => i_IndictionOf (y + 1) W
            rw [n1] at ca
            rw [n2] at cb
            dsimp only at ca cb
            have CA := Lib.hid ca
            have CB := Lib.hid cb
            clear ca cb n1 n2
            go_wp2_with fail
            refine (CA.out _).mono ?_
            rintro e wa ⟨rfl, rfl⟩
            go_wp2_with fail
            refine (CB.out _).mono ?_
            rintro e wb ⟨rfl, rfl⟩
            by_cases hB : B = 0
            · obtain ⟨b0, b1⟩ := BD.out hB
              subst hB
              go_wp2_with fail
              go_ret
              exact ⟨rfl, L⟩
            · have hB' : decide (B = 0) = false := by simp [hB]
              go_wp2_with fail
              go_ret
              refine ⟨?_, L⟩
              first | (simp; done) | simp [hB]
          · subst hT
            have hy' : decide (y ≤ 1985) = false := by simp [hy]
            have hy2 : 1985 < y := by omega
            clear hy
            by_cases hB : B = 0
            · obtain ⟨b0, b1⟩ := BD.out hB
              subst hB
              go_wp2_with fail
              go_ret
              exact ⟨rfl, L⟩
            · have hB' : decide (B = 0) = false := by simp [hB]
              go_wp2_with fail
              go_ret
              refine ⟨?_, L⟩
              first | (simp; done) | simp [hB]
        · have hT' : decide (T = 0) = false := by simp [hT]
          by_cases hB : B = 0
          · obtain ⟨b0, b1⟩ := BD.out hB
            subst hB
            go_wp2_with fail
            go_ret
            exact ⟨rfl, L⟩
          · have hB' : decide (B = 0) = false := by simp [hB]
            go_wp2_with fail
            go_ret
            refine ⟨?_, L⟩
            first | (simp; done) | simp [hB]
    · have hE' : decide (E = 0) = false := by simp [hE]
      by_cases hT : T = 0
      · obtain ⟨ya, yb⟩ := YB.out hT
        by_cases hy : y ≤ 1985
        · obtain ⟨n1, n2, i0, i1⟩ := NX.out hT hy
          subst hT
          have ca := fun W => i_IndictionOf (y + 15) W
          have cb := fun W => i_IndictionOf (y + 1) W
          rw [n1] at ca
          rw [n2] at cb
          dsimp only at ca cb
          have CA := Lib.hid ca
          have CB := Lib.hid cb
          clear ca cb n1 n2
          go_wp2_with fail
          refine (CA.out _).mono ?_
          rintro e wa ⟨rfl, rfl⟩
          go_wp2_with fail
          refine (CB.out _).mono ?_
          rintro e wb ⟨rfl, rfl⟩
          by_cases hB : B = 0
          · obtain ⟨b0, b1⟩ := BD.out hB
            subst hB
            go_wp2_with fail
            go_ret
            exact ⟨rfl, L⟩
          · have hB' : decide (B = 0) = false := by simp [hB]
            go_wp2_with fail
            go_ret
            refine ⟨?_, L⟩
            first | (simp; done) | simp [hB]
        · subst hT
          have hy' : decide (y ≤ 1985) = false := by simp [hy]
          have hy2 : 1985 < y := by omega
          clear hy
          by_cases hB : B = 0
          · obtain ⟨b0, b1⟩ := BD.out hB
            subst hB
            go_wp2_with fail
            go_ret
            exact ⟨rfl, L⟩
          · have hB' : decide (B = 0) = false := by simp [hB]
            go_wp2_with fail
            go_ret
            refine ⟨?_, L⟩
            first | (simp; done) | simp [hB]
      · have hT' : decide (T = 0) = false := by simp [hT]
        by_cases hB : B = 0
        · obtain ⟨b0, b1⟩ := BD.out hB
          subst hB
          go_wp2_with fail
          go_ret
          exact ⟨rfl, L⟩
        · have hB' : decide (B = 0) = false := by simp [hB]
          go_wp2_with fail
          go_ret
          refine ⟨?_, L⟩
          first | (simp; done) | simp [hB]
end Go.Proofs.Ytnoeakhhokbikaa.fnIndictions
