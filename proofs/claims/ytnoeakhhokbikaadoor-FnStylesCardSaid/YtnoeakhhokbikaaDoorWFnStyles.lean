/- Each day that is told by a style is in the span of its year and of no other one: the walk. No condition. -/
import Derived.Test.YtnoeakhhokbikaaDoorRows
import Derived.Test.YtnoeakhhokbikaaDoorKit
import Derived.Test.YtnoeakhhokbikaaDoorStysP
import Derived.Test.YtnoeakhhokbikaaDoorLike
import Derived.Test.YtnoeakhhokbikaaDoorDrawN
import Derived.Test.YtnoeakhhokbikaaDoorDrawY
import Derived.Test.YtnoeakhhokbikaaDoorMem
import Derived.OpenShut
namespace Go.Proofs.YtnoeakhhokbikaaDoor.fnStyles
open Go.RowKit
set_option linter.unusedVariables false
-- door
set_option maxRecDepth 100000 in
set_option maxHeartbeats 8000000 in
theorem walk (a : Option Addr) (n c : Nat) (xs : List Int) (hn : n ≤ 9223372036854775807) {w : World} (hI : InB w a n xs) (hx : ∀ i, 0 ≤ xs.getD i 0 ∧ xs.getD i 0 ≤ 255) (_ : World) (hsh : w.ShapedOpen Tryd.prog) : Calls Tryd.prog 3 #[.slice a n c] w fun e w' => e = .returned (.bool true) ∧ Below w.heap.size w w' := by
  have HM : Hid (MaxOk w) := Tryd.laysM146.s1_3 w hsh
  clear hsh
  have con := l_big' a n c w
  by_cases hbig : (4096 : Int) < n
  · simp only [hbig, decide_true] at con
    go_enter Tryd.func3, Tryd.ntmps3
    go_wp2_with fail
    refine con.mono ?_
    rintro e w1 ⟨rfl, L1⟩
    go_wp2_with fail
    go_ret
    exact ⟨rfl, L1⟩
  · simp only [hbig, decide_false] at con
    have hn' : n ≤ 4096 := by omega
    have hIB : ∀ W : World, Below w.heap.size w W → InB W a n xs := fun W h => hI.below h
    have HIB := Lib.hid hIB
    have HX := Lib.hid hx
    clear hIB hx hI
    go_enter Tryd.func3, Tryd.ntmps3
    go_wp2_with fail
    refine con.mono ?_
    rintro e w1 ⟨rfl, L⟩
    clear con hbig
    go_wp2_with fail
    refine (d_YearOn a n c xs _ (HIB.out _ L) hn' HX.out).mono ?_
    rintro e w2 ⟨⟨s, z, rfl⟩, hb⟩
    replace L := below_step L hb
    clear hb
    have is := fun W => i_YearOn s z W
    have ss := fun W => s_YearOn s z W
    obtain ⟨⟨Y, B⟩, hYB⟩ : ∃ p, yrOnF s z = p := ⟨_, rfl⟩
    have OWN := Lib.hid (own_span hYB)
    rw [hYB] at is ss
    dsimp only at is ss
    have IS := Lib.hid is
    have SS := Lib.hid ss
    clear is ss hYB
    go_wp2_with fail
    refine (IS.out _).mono ?_
    rintro e w3 ⟨rfl, hb⟩
    replace L := below_step L hb
    clear hb IS
    go_wp2_with fail
    refine (SS.out _).mono ?_
    rintro e w4 ⟨rfl, hb⟩
    replace L := below_step L hb
    clear hb SS
    go_wp2_with fail
    refine (d_StylesFor a n c xs _ (HIB.out _ L) hn' HX.out).mono ?_
    rintro e w5 ⟨⟨d, y, rfl⟩, hb⟩
    replace L := below_step L hb
    clear hb
    go_wp2_with fail
    refine (i_StylesFor _ _ _).mono ?_
    rintro e w6 ⟨v1, rfl, V1, hb⟩
    replace L := below_step L hb
    clear hb
    go_wp2_with fail
    refine (s_StylesFor _ _ _).mono ?_
    rintro e w7 ⟨v2, rfl, V2, hb⟩
    replace V1 := V1.below hb
    replace L := below_step L hb
    clear hb
    have hlen := stF_len d y
    have hmem := fun z => st_day (n := d) (y := y) (z := z)
    have herr := stF_err (n := d) (y := y)
    obtain ⟨⟨ls, F⟩, hls⟩ : ∃ p, stF d y = p := ⟨_, rfl⟩
    rw [hls] at V1 V2 hlen herr ⊢
    simp only [hls] at hmem
    dsimp only at V1 V2 hlen hmem herr ⊢
    have HMEM := Lib.hid hmem
    clear hls hmem
    go_wp2_with fail
    refine (d_YearDifference a n c xs _ (HIB.out _ L) hn' HX.out).mono ?_
    rintro e w8 ⟨⟨p, q, m, rfl⟩, hb⟩
    replace V1 := V1.below hb
    replace V2 := V2.below hb
    replace L := below_step L hb
    clear hb
    have is := fun W => i_YearDifference p q m W
    have ss := fun W => s_YearDifference p q m W
    obtain ⟨⟨D, T⟩, hDT⟩ : ∃ r, diffF p q m = r := ⟨_, rfl⟩
    have DL := Lib.hid (diff_law hDT)
    rw [hDT] at is ss
    dsimp only at is ss
    have IS := Lib.hid is
    have SS := Lib.hid ss
    clear is ss hDT
    go_wp2_with fail
    refine (IS.out _).mono ?_
    rintro e w9 ⟨rfl, hb⟩
    replace V1 := V1.below hb
    replace V2 := V2.below hb
    replace L := below_step L hb
    clear hb IS
    go_wp2_with fail
    refine (SS.out _).mono ?_
    rintro e w10 ⟨rfl, hb⟩
    replace V1 := V1.below hb
    replace V2 := V2.below hb
    replace L := below_step L hb
    clear hb SS
    go_wp2_with fail
    refine (d_StyleName a n c xs _ (HIB.out _ L) hn' HX.out).mono ?_
    rintro e w11 ⟨⟨k, rfl, k0, k1⟩, hb⟩
    replace V1 := V1.below hb
    replace V2 := V2.below hb
    replace L := below_step L hb
    clear hb
    have cn := fun W (h : Below w.heap.size w W) => i_StyleName k W (HM.out.below h)
    have sn := fun W => s_StyleName k W
    have hno := nm_no (k := k)
    have hyes := nm_yes (k := k)
    obtain ⟨x, hxn⟩ : ∃ x, nameAt stylesL 0 6 0 k = x := ⟨_, rfl⟩
    rw [hxn] at cn sn hno hyes
    have cm := fun W (h : Below w.heap.size w W) => i_StyleNamed x W (HM.out.below h)
    have CN := Lib.hid cn
    have SN := Lib.hid sn
    clear cn sn hxn
    go_wp2_with fail
    refine (CN.out _ L).mono ?_
    rintro e w12 ⟨rfl, hb⟩
    replace V1 := V1.below hb
    replace V2 := V2.below hb
    replace L := below_step L hb
    clear hb CN
    by_cases hk : inB k 0 6 = true
    · obtain ⟨hst, hlx⟩ := hyes hk
      rw [hst] at cm
      dsimp only at cm
      have CM := Lib.hid cm
      have hx0 : ¬ x = [] := by rintro rfl; simp at hlx
      have hx1 : x.isEmpty = false := by
        cases x with
        | nil => simp at hlx
        | cons => rfl
      clear cm hst hno hyes hk hlx
      go_wp2_with fail
      refine (CM.out _ L).mono ?_
      rintro e w13 ⟨rfl, hb⟩
      replace V1 := V1.below hb
      replace V2 := V2.below hb
      replace L := below_step L hb
      clear hb CM
      go_wp2_with fail
      refine (d_StyleNamed a n c xs _ (HIB.out _ L) hn' HX.out).mono ?_
      rintro e w14 ⟨⟨u, rfl⟩, hb⟩
      replace V1 := V1.below hb
      replace V2 := V2.below hb
      replace L := below_step L hb
      clear hb
      have is := fun W (h : Below w.heap.size w W) => i_StyleNamed u W (HM.out.below h)
      have ss := fun W => s_StyleNamed u W
      obtain ⟨⟨U, G⟩, hUG⟩ : ∃ r, stN u = r := ⟨_, rfl⟩
      rw [hUG] at is ss
      dsimp only at is ss
      have IS := Lib.hid is
      have SS := Lib.hid ss
      clear is ss hUG
      go_wp2_with fail
      refine (IS.out _ L).mono ?_
      rintro e w15 ⟨rfl, hb⟩
      replace V1 := V1.below hb
      replace V2 := V2.below hb
      replace L := below_step L hb
      clear hb IS
      go_wp2_with fail
      refine (SS.out _).mono ?_
      rintro e w16 ⟨rfl, hb⟩
      replace V1 := V1.below hb
      replace V2 := V2.below hb
      replace L := below_step L hb
      clear hb SS
      go_wp2_with fail
      refine (like_same _ V1 V2).mono ?_
      rintro e w17 ⟨rfl, hb⟩
      replace V1 := V1.below hb
      replace L := below_step L hb
      clear hb V2
      go_wp2_with fail
      refine (SN.out _).mono ?_
      rintro e w18 ⟨rfl, hb⟩
      replace V1 := V1.below hb
      replace L := below_step L hb
      clear hb SN
      obtain ⟨hl, A1, c1, rfl, _⟩ := V1.opened
      obtain ⟨bs, V⟩ : ∃ b, OwnI _ b (.slice A1 ls.length c1) ls := ⟨_, V1⟩
      obtain ⟨q1, hq⟩ : ∃ q, ls.length = q := ⟨_, rfl⟩
      have hql : ∀ j, j < q1 → ls[j]! ∈ ls := fun j hj => by
        rw [getElem!_pos ls j (by omega)]
        exact List.getElem_mem _
      have HQ := Lib.hid hql
      rw [hq] at V hl hlen ⊢
      clear V1 hql hl
      by_cases hT : T = 0
      · obtain ⟨n1, D0, D1⟩ := DL.out hT
        subst hT
        have cd := fun W => i_YearDifference q p m W
        rw [n1] at cd
        dsimp only at cd
        have CD := Lib.hid cd
        clear cd n1
        go_wp2_with fail
        refine (CD.out _).mono ?_
        rintro e w19 ⟨rfl, hb⟩
        replace V := V.below hb
        replace L := below_step L hb
        clear hb CD
        go_wp2_with fail
        clear D0 D1
        go_loopw [33] (fun v wr => ∃ j : Nat, j ≤ q1 ∧ v = .int .i64 j ∧ OwnI wr bs (.slice A1 q1 c1) ls ∧ Below w.heap.size w wr) (fun v _ => q1 - (intOf v).toNat)
        case atStart => exact ⟨0, by omega, rfl, V, L⟩
        case round =>
          clear V L
          obtain ⟨j, hj, rfl, V, L⟩ := hrel
          by_cases hF : F = 0
          · subst hF
            by_cases hlt : j < q1
            · obtain ⟨_, B1, d1', hsl, P⟩ := V.opened
              rw [hq] at hsl P
              obtain ⟨rfl, rfl⟩ : A1 = B1 ∧ c1 = d1' := by
                injection hsl with h1 h2 h3
                exact ⟨h1, h3⟩
              obtain ⟨g1', rfl, _, hg1, hc1, _⟩ := P (by omega)
              have cx := hc1 j hlt
              have hyo := HMEM.out _ (HQ.out j hlt)
              obtain ⟨xj, hxj⟩ : ∃ t, ls[j]! = t := ⟨_, rfl⟩
              rw [hxj] at cx hyo
              have con2 := fun W => i_YearOn xj d W
              rw [hyo] at con2
              dsimp only at con2
              have CON2 := Lib.hid con2
              clear con2 hyo hxj hc1 P hsl
              go_wp2_with fail
              refine (CON2.out _).mono ?_
              rintro r wr2 ⟨rfl, hb⟩
              replace V := V.below hb
              replace L := below_step L hb
              clear hb cx hg1
              go_wp2_with fail
              go_roundw
              case rel => exact ⟨j + 1, by omega, by go_num, V, L⟩
              case measure => simp [intOf]; omega
            · obtain rfl : j = q1 := by omega
              by_cases hB : B = 0
              · obtain ⟨P0, P1, hP, hP0, hP1⟩ := OWN.out hB
                subst hB
                have cy := fun W => i_YearSpan s Y W
                rw [hP] at cy
                dsimp only at cy
                have CY := Lib.hid cy
                clear cy hP
                go_wp2_with fail
                refine (CY.out _).mono ?_
                rintro e wz ⟨rfl, hb⟩
                replace L := below_step L hb
                clear hb
                go_wp2_with fail
                go_ret
                refine ⟨?_, below_more L L.size _⟩
                first | rfl | (simp; done) | (simp <;> omega)
              · have hB' : decide (B = 0) = false := by simp [hB]
                go_wp2_with fail
                go_ret
                exact ⟨rfl, L⟩
          · obtain rfl : ls = [] := herr hF
            simp at hq
            subst hq
            obtain rfl : j = 0 := by omega
            have hF' : decide (F = 0) = false := by simp [hF]
            by_cases hB : B = 0
            · obtain ⟨P0, P1, hP, hP0, hP1⟩ := OWN.out hB
              subst hB
              have cy := fun W => i_YearSpan s Y W
              rw [hP] at cy
              dsimp only at cy
              have CY := Lib.hid cy
              clear cy hP
              go_wp2_with fail
              refine (CY.out _).mono ?_
              rintro e wz ⟨rfl, hb⟩
              replace L := below_step L hb
              clear hb
              go_wp2_with fail
              go_ret
              refine ⟨?_, below_more L L.size _⟩
              first | rfl | (simp; done) | (simp <;> omega)
            · have hB' : decide (B = 0) = false := by simp [hB]
              go_wp2_with fail
              go_ret
              exact ⟨rfl, L⟩
      · have hT' : decide (T = 0) = false := by simp [hT]
        have hT2 : (T == 0) = false := by simpa using hT
        go_wp2_with fail
        try rw [hT2]
        clear hT hT' hT2
        go_loopw [33] (fun v wr => ∃ j : Nat, j ≤ q1 ∧ v = .int .i64 j ∧ OwnI wr bs (.slice A1 q1 c1) ls ∧ Below w.heap.size w wr) (fun v _ => q1 - (intOf v).toNat)
        case atStart => exact ⟨0, by omega, rfl, V, L⟩
        case round =>
          clear V L
          obtain ⟨j, hj, rfl, V, L⟩ := hrel
          by_cases hF : F = 0
          · subst hF
            by_cases hlt : j < q1
            · obtain ⟨_, B1, d1', hsl, P⟩ := V.opened
              rw [hq] at hsl P
              obtain ⟨rfl, rfl⟩ : A1 = B1 ∧ c1 = d1' := by
                injection hsl with h1 h2 h3
                exact ⟨h1, h3⟩
              obtain ⟨g1', rfl, _, hg1, hc1, _⟩ := P (by omega)
              have cx := hc1 j hlt
              have hyo := HMEM.out _ (HQ.out j hlt)
              obtain ⟨xj, hxj⟩ : ∃ t, ls[j]! = t := ⟨_, rfl⟩
              rw [hxj] at cx hyo
              have con2 := fun W => i_YearOn xj d W
              rw [hyo] at con2
              dsimp only at con2
              have CON2 := Lib.hid con2
              clear con2 hyo hxj hc1 P hsl
              go_wp2_with fail
              refine (CON2.out _).mono ?_
              rintro r wr2 ⟨rfl, hb⟩
              replace V := V.below hb
              replace L := below_step L hb
              clear hb cx hg1
              go_wp2_with fail
              go_roundw
              case rel => exact ⟨j + 1, by omega, by go_num, V, L⟩
              case measure => simp [intOf]; omega
            · obtain rfl : j = q1 := by omega
              by_cases hB : B = 0
              · obtain ⟨P0, P1, hP, hP0, hP1⟩ := OWN.out hB
                subst hB
                have cy := fun W => i_YearSpan s Y W
                rw [hP] at cy
                dsimp only at cy
                have CY := Lib.hid cy
                clear cy hP
                go_wp2_with fail
                refine (CY.out _).mono ?_
                rintro e wz ⟨rfl, hb⟩
                replace L := below_step L hb
                clear hb
                go_wp2_with fail
                go_ret
                refine ⟨?_, below_more L L.size _⟩
                first | rfl | (simp; done) | (simp <;> omega)
              · have hB' : decide (B = 0) = false := by simp [hB]
                go_wp2_with fail
                go_ret
                exact ⟨rfl, L⟩
          · obtain rfl : ls = [] := herr hF
            simp at hq
            subst hq
            obtain rfl : j = 0 := by omega
            have hF' : decide (F = 0) = false := by simp [hF]
            by_cases hB : B = 0
            · obtain ⟨P0, P1, hP, hP0, hP1⟩ := OWN.out hB
              subst hB
              have cy := fun W => i_YearSpan s Y W
              rw [hP] at cy
              dsimp only at cy
              have CY := Lib.hid cy
              clear cy hP
              go_wp2_with fail
              refine (CY.out _).mono ?_
              rintro e wz ⟨rfl, hb⟩
              replace L := below_step L hb
              clear hb
              go_wp2_with fail
              go_ret
              refine ⟨?_, below_more L L.size _⟩
              first | rfl | (simp; done) | (simp <;> omega)
            · have hB' : decide (B = 0) = false := by simp [hB]
              go_wp2_with fail
              go_ret
              exact ⟨rfl, L⟩
    · replace hk : inB k 0 6 = false := by simpa using hk
      obtain rfl := hno hk
      rw [stN_nil] at cm
      dsimp only at cm
      have CM := Lib.hid cm
      clear cm hno hyes hk
      go_wp2_with fail
      refine (CM.out _ L).mono ?_
      rintro e w13 ⟨rfl, hb⟩
      replace V1 := V1.below hb
      replace V2 := V2.below hb
      replace L := below_step L hb
      clear hb CM
      go_wp2_with fail
      refine (d_StyleNamed a n c xs _ (HIB.out _ L) hn' HX.out).mono ?_
      rintro e w14 ⟨⟨u, rfl⟩, hb⟩
      replace V1 := V1.below hb
      replace V2 := V2.below hb
      replace L := below_step L hb
      clear hb
      have is := fun W (h : Below w.heap.size w W) => i_StyleNamed u W (HM.out.below h)
      have ss := fun W => s_StyleNamed u W
      obtain ⟨⟨U, G⟩, hUG⟩ : ∃ r, stN u = r := ⟨_, rfl⟩
      rw [hUG] at is ss
      dsimp only at is ss
      have IS := Lib.hid is
      have SS := Lib.hid ss
      clear is ss hUG
      go_wp2_with fail
      refine (IS.out _ L).mono ?_
      rintro e w15 ⟨rfl, hb⟩
      replace V1 := V1.below hb
      replace V2 := V2.below hb
      replace L := below_step L hb
      clear hb IS
      go_wp2_with fail
      refine (SS.out _).mono ?_
      rintro e w16 ⟨rfl, hb⟩
      replace V1 := V1.below hb
      replace V2 := V2.below hb
      replace L := below_step L hb
      clear hb SS
      go_wp2_with fail
      refine (like_same _ V1 V2).mono ?_
      rintro e w17 ⟨rfl, hb⟩
      replace V1 := V1.below hb
      replace L := below_step L hb
      clear hb V2
      go_wp2_with fail
      refine (SN.out _).mono ?_
      rintro e w18 ⟨rfl, hb⟩
      replace V1 := V1.below hb
      replace L := below_step L hb
      clear hb SN
      obtain ⟨hl, A1, c1, rfl, _⟩ := V1.opened
      obtain ⟨bs, V⟩ : ∃ b, OwnI _ b (.slice A1 ls.length c1) ls := ⟨_, V1⟩
      obtain ⟨q1, hq⟩ : ∃ q, ls.length = q := ⟨_, rfl⟩
      have hql : ∀ j, j < q1 → ls[j]! ∈ ls := fun j hj => by
        rw [getElem!_pos ls j (by omega)]
        exact List.getElem_mem _
      have HQ := Lib.hid hql
      rw [hq] at V hl hlen ⊢
      clear V1 hql hl
      by_cases hT : T = 0
      · obtain ⟨n1, D0, D1⟩ := DL.out hT
        subst hT
        have cd := fun W => i_YearDifference q p m W
        rw [n1] at cd
        dsimp only at cd
        have CD := Lib.hid cd
        clear cd n1
        go_wp2_with fail
        refine (CD.out _).mono ?_
        rintro e w19 ⟨rfl, hb⟩
        replace V := V.below hb
        replace L := below_step L hb
        clear hb CD
        go_wp2_with fail
        clear D0 D1
        go_loopw [33] (fun v wr => ∃ j : Nat, j ≤ q1 ∧ v = .int .i64 j ∧ OwnI wr bs (.slice A1 q1 c1) ls ∧ Below w.heap.size w wr) (fun v _ => q1 - (intOf v).toNat)
        case atStart => exact ⟨0, by omega, rfl, V, L⟩
        case round =>
          clear V L
          obtain ⟨j, hj, rfl, V, L⟩ := hrel
          by_cases hF : F = 0
          · subst hF
            by_cases hlt : j < q1
            · obtain ⟨_, B1, d1', hsl, P⟩ := V.opened
              rw [hq] at hsl P
              obtain ⟨rfl, rfl⟩ : A1 = B1 ∧ c1 = d1' := by
                injection hsl with h1 h2 h3
                exact ⟨h1, h3⟩
              obtain ⟨g1', rfl, _, hg1, hc1, _⟩ := P (by omega)
              have cx := hc1 j hlt
              have hyo := HMEM.out _ (HQ.out j hlt)
              obtain ⟨xj, hxj⟩ : ∃ t, ls[j]! = t := ⟨_, rfl⟩
              rw [hxj] at cx hyo
              have con2 := fun W => i_YearOn xj d W
              rw [hyo] at con2
              dsimp only at con2
              have CON2 := Lib.hid con2
              clear con2 hyo hxj hc1 P hsl
              go_wp2_with fail
              refine (CON2.out _).mono ?_
              rintro r wr2 ⟨rfl, hb⟩
              replace V := V.below hb
              replace L := below_step L hb
              clear hb cx hg1
              go_wp2_with fail
              go_roundw
              case rel => exact ⟨j + 1, by omega, by go_num, V, L⟩
              case measure => simp [intOf]; omega
            · obtain rfl : j = q1 := by omega
              by_cases hB : B = 0
              · obtain ⟨P0, P1, hP, hP0, hP1⟩ := OWN.out hB
                subst hB
                have cy := fun W => i_YearSpan s Y W
                rw [hP] at cy
                dsimp only at cy
                have CY := Lib.hid cy
                clear cy hP
                go_wp2_with fail
                refine (CY.out _).mono ?_
                rintro e wz ⟨rfl, hb⟩
                replace L := below_step L hb
                clear hb
                go_wp2_with fail
                go_ret
                refine ⟨?_, below_more L L.size _⟩
                first | rfl | (simp; done) | (simp <;> omega)
              · have hB' : decide (B = 0) = false := by simp [hB]
                go_wp2_with fail
                go_ret
                exact ⟨rfl, L⟩
          · obtain rfl : ls = [] := herr hF
            simp at hq
            subst hq
            obtain rfl : j = 0 := by omega
            have hF' : decide (F = 0) = false := by simp [hF]
            by_cases hB : B = 0
            · obtain ⟨P0, P1, hP, hP0, hP1⟩ := OWN.out hB
              subst hB
              have cy := fun W => i_YearSpan s Y W
              rw [hP] at cy
              dsimp only at cy
              have CY := Lib.hid cy
              clear cy hP
              go_wp2_with fail
              refine (CY.out _).mono ?_
              rintro e wz ⟨rfl, hb⟩
              replace L := below_step L hb
              clear hb
              go_wp2_with fail
              go_ret
              refine ⟨?_, below_more L L.size _⟩
              first | rfl | (simp; done) | (simp <;> omega)
            · have hB' : decide (B = 0) = false := by simp [hB]
              go_wp2_with fail
              go_ret
              exact ⟨rfl, L⟩
      · have hT' : decide (T = 0) = false := by simp [hT]
        have hT2 : (T == 0) = false := by simpa using hT
        go_wp2_with fail
        try rw [hT2]
        clear hT hT' hT2
        go_loopw [33] (fun v wr => ∃ j : Nat, j ≤ q1 ∧ v = .int .i64 j ∧ OwnI wr bs (.slice A1 q1 c1) ls ∧ Below w.heap.size w wr) (fun v _ => q1 - (intOf v).toNat)
        case atStart => exact ⟨0, by omega, rfl, V, L⟩
        case round =>
          clear V L
          obtain ⟨j, hj, rfl, V, L⟩ := hrel
          by_cases hF : F = 0
          · subst hF
            by_cases hlt : j < q1
            · obtain ⟨_, B1, d1', hsl, P⟩ := V.opened
              rw [hq] at hsl P
              obtain ⟨rfl, rfl⟩ : A1 = B1 ∧ c1 = d1' := by
                injection hsl with h1 h2 h3
                exact ⟨h1, h3⟩
              obtain ⟨g1', rfl, _, hg1, hc1, _⟩ := P (by omega)
              have cx := hc1 j hlt
              have hyo := HMEM.out _ (HQ.out j hlt)
              obtain ⟨xj, hxj⟩ : ∃ t, ls[j]! = t := ⟨_, rfl⟩
              rw [hxj] at cx hyo
              have con2 := fun W => i_YearOn xj d W
              rw [hyo] at con2
              dsimp only at con2
              have CON2 := Lib.hid con2
              clear con2 hyo hxj hc1 P hsl
              go_wp2_with fail
              refine (CON2.out _).mono ?_
              rintro r wr2 ⟨rfl, hb⟩
              replace V := V.below hb
              replace L := below_step L hb
              clear hb cx hg1
              go_wp2_with fail
              go_roundw
              case rel => exact ⟨j + 1, by omega, by go_num, V, L⟩
              case measure => simp [intOf]; omega
            · obtain rfl : j = q1 := by omega
              by_cases hB : B = 0
              · obtain ⟨P0, P1, hP, hP0, hP1⟩ := OWN.out hB
                subst hB
                have cy := fun W => i_YearSpan s Y W
                rw [hP] at cy
                dsimp only at cy
                have CY := Lib.hid cy
                clear cy hP
                go_wp2_with fail
                refine (CY.out _).mono ?_
                rintro e wz ⟨rfl, hb⟩
                replace L := below_step L hb
                clear hb
                go_wp2_with fail
                go_ret
                refine ⟨?_, below_more L L.size _⟩
                first | rfl | (simp; done) | (simp <;> omega)
              · have hB' : decide (B = 0) = false := by simp [hB]
                go_wp2_with fail
                go_ret
                exact ⟨rfl, L⟩
          · obtain rfl : ls = [] := herr hF
            simp at hq
            subst hq
            obtain rfl : j = 0 := by omega
            have hF' : decide (F = 0) = false := by simp [hF]
            by_cases hB : B = 0
            · obtain ⟨P0, P1, hP, hP0, hP1⟩ := OWN.out hB
              subst hB
              have cy := fun W => i_YearSpan s Y W
              rw [hP] at cy
              dsimp only at cy
              have CY := Lib.hid cy
              clear cy hP
              go_wp2_with fail
              refine (CY.out _).mono ?_
              rintro e wz ⟨rfl, hb⟩
              replace L := below_step L hb
              clear hb
              go_wp2_with fail
              go_ret
              refine ⟨?_, below_more L L.size _⟩
              first | rfl | (simp; done) | (simp <;> omega)
            · have hB' : decide (B = 0) = false := by simp [hB]
              go_wp2_with fail
              go_ret
              exact ⟨rfl, L⟩
end Go.Proofs.YtnoeakhhokbikaaDoor.fnStyles
