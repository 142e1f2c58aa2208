/- Years of a style follow one another, and days with a date are in their year: the walk. No condition. -/
import Derived.Test.YtffpaedhdjnbjaaRows
import Derived.Test.YtffpaedhdjnbjaaKit
import Derived.Test.YtffpaedhdjnbjaaDaysWith2
import Derived.Test.YtffpaedhdjnbjaaLike
import Derived.Test.YtffpaedhdjnbjaaDrawS
import Derived.Test.YtffpaedhdjnbjaaDrawY
import Derived.Test.YtffpaedhdjnbjaaLen
import Derived.Test.YtffpaedhdjnbjaaMem
namespace Go.Proofs.Ytffpaedhdjnbjaa.fnStyleDays
open Go.RowKit
set_option linter.unusedVariables false
theorem span_len (s y : Int) : ∃ P0 P1 G Z, spanF s y = ((P0, P1), Z) ∧ lenF s y = (G, Z) ∧ (Z = 0 → G = P1 - P0 + 1 ∧ 329 ≤ G ∧ G ≤ 401 ∧ 0 ≤ P0 ∧ P0 ≤ P1 ∧ P1 ≤ 730499 ∧ ∃ Q0 Q1 U, spanF s (y + 1) = ((Q0, Q1), U) ∧ ((U = 0 ∧ Q0 = P1 + 1) ∨ U = 2)) := by
  by_cases h : (inB s 0 6 && inB y 2 1999) = true
  · refine ⟨_, _, _, _, by unfold spanF; rw [if_pos h], by unfold lenF; rw [if_pos h], fun _ => ?_⟩
    simp only [Bool.and_eq_true] at h
    obtain ⟨y0, y1⟩ := inB_iff.1 h.2
    obtain ⟨p0, p1, p2, _⟩ := span_days s y y0 y1
    have hd := beg_diff s y
    refine ⟨rfl, by omega, by omega, p0, p1, p2, ?_⟩
    by_cases h2 : (inB s 0 6 && inB (y + 1) 2 1999) = true
    · exact ⟨_, _, _, by unfold spanF; rw [if_pos h2], .inl ⟨rfl, by omega⟩⟩
    · exact ⟨_, _, _, by unfold spanF; rw [if_neg h2], .inr rfl⟩
  · exact ⟨_, _, _, _, by unfold spanF; rw [if_neg h], by unfold lenF; rw [if_neg h], fun h0 => by simp at h0⟩
theorem err_dwsF {s y m d : Int} (h : (dwsF s y m d).2 ≠ 0) : (dwsF s y m d).1 = [] := by
  unfold dwsF at h ⊢
  split at h
  · simp at h
  · rename_i h1
    rw [if_neg h1]
set_option maxRecDepth 100000 in
set_option maxHeartbeats 4000000 in
theorem walk (a : Option Addr) (n c : Nat) (xs : List Int) (hn : n ≤ 9223372036854775807) {w : World} (hI : InB w a n xs) (hx : ∀ i, 0 ≤ xs.getD i 0 ∧ xs.getD i 0 ≤ 255) (_ : World) : Calls Try.prog 5 #[.slice a n c] w fun e w' => e = .returned (.bool true) ∧ Below w.heap.size w w' := by
  have con := l_big' a n c w
  by_cases hbig : (4096 : Int) < n
  · simp only [hbig, decide_true] at con
    go_enter Try.func5, Try.ntmps5
    go_wp2_with fail
    refine con.mono ?_
    rintro e w1 ⟨rfl, L1⟩
    go_wp2_with fail
    go_ret
    exact ⟨rfl, L1⟩
  · simp only [hbig, decide_false] at con
    have hn' : n ≤ 4096 := by omega
    have hIB : ∀ W : World, Below w.heap.size w W → InB W a n xs := fun W h => hI.below h
    have HIB := Lib.hid hIB
    have HX := Lib.hid hx
    clear hIB hx hI
    go_enter Try.func5, Try.ntmps5
    go_wp2_with fail
    refine con.mono ?_
    rintro e w1 ⟨rfl, L⟩
    clear con hbig
    go_wp2_with fail
    refine (d_DaysWith a n c xs _ (HIB.out _ L) hn' HX.out).mono ?_
    rintro e w2 ⟨⟨k, y, m, d, rfl, k0, k1, y0, y1, m0, m1, d0, d1⟩, hb⟩
    replace L := below_step L hb
    clear hb
    go_wp2_with fail
    refine (i_DaysWith _ _ _ _ _).mono ?_
    rintro e w3 ⟨v1, rfl, V1, hb⟩
    replace L := below_step L hb
    clear hb
    go_wp2_with fail
    refine (s_DaysWith _ _ _ _ _).mono ?_
    rintro e w4 ⟨v2, rfl, V2, hb⟩
    replace V1 := V1.below hb
    replace L := below_step L hb
    clear hb
    have hlen := dwsF_two k y m d
    have hmem := fun z => style_day (s := k) (y := y) (m := m) (d := d) (z := z)
    have herr := err_dwsF (s := k) (y := y) (m := m) (d := d)
    obtain ⟨⟨ls, F⟩, hls⟩ : ∃ p, dwsF k y m d = p := ⟨_, rfl⟩
    rw [hls] at V1 V2 hlen herr ⊢
    simp only [hls] at hmem
    dsimp only at V1 V2 hlen hmem herr ⊢
    have HMEM := Lib.hid hmem
    clear hls hmem
    go_wp2_with fail
    refine (d_YearSpan a n c xs _ (HIB.out _ L) hn' HX.out).mono ?_
    rintro e w5 ⟨⟨k2, y2, rfl, g0, g1, z0, z1⟩, hb⟩
    replace V1 := V1.below hb
    replace V2 := V2.below hb
    replace L := below_step L hb
    clear hb HIB HX
    have is := fun W => i_YearSpan k2 y2 W
    have ss := fun W => s_YearSpan k2 y2 W
    have il := fun W => i_LengthOfYear k2 y2 W
    have sl := fun W => s_LengthOfYear k2 y2 W
    obtain ⟨P0, P1, G, Z, hP, hG, law⟩ := span_len k2 y2
    rw [hP] at is ss
    rw [hG] at il sl
    dsimp only at is ss il sl
    have IS := Lib.hid is
    have SS := Lib.hid ss
    have IL := Lib.hid il
    have SL := Lib.hid sl
    have LAW := Lib.hid law
    clear is ss il sl law hP hG
    go_wp2_with fail
    refine (IS.out _).mono ?_
    rintro e w6 ⟨rfl, hb⟩
    replace V1 := V1.below hb
    replace V2 := V2.below hb
    replace L := below_step L hb
    clear hb IS
    go_wp2_with fail
    refine (SS.out _).mono ?_
    rintro e w7 ⟨rfl, hb⟩
    have S := (Blk.new w6 49 #[.int .i64 P0, .int .i64 P1]).below hb (by simp)
    replace V1 := (V1.alloc _).below hb
    replace V2 := (V2.alloc _).below hb
    replace L := below_step (below_more L L.size _) hb
    have hs := S.lt
    clear hb SS
    go_wp2_with fail
    refine (IL.out _).mono ?_
    rintro e w8 ⟨rfl, hb⟩
    have T := (Blk.new w7 49 #[.int .i64 P0, .int .i64 P1]).below hb (by simp)
    replace S := (S.alloc _).below hb (by simp; omega)
    replace V1 := (V1.alloc _).below hb
    replace V2 := (V2.alloc _).below hb
    replace L := below_step (below_more L L.size _) hb
    clear hb IL
    go_wp2_with fail
    refine (SL.out _).mono ?_
    rintro e w9 ⟨rfl, hb⟩
    replace S := S.below hb S.lt
    replace T := T.below hb T.lt
    replace V1 := V1.below hb
    replace V2 := V2.below hb
    replace L := below_step L hb
    clear hb SL
    go_wp2_with fail
    refine (like_same _ V1 V2).mono ?_
    rintro e w10 ⟨rfl, hb⟩
    replace S := S.below hb S.lt
    replace T := T.below hb T.lt
    replace V1 := V1.below hb
    replace L := below_step L hb
    clear hb V2
    have S0 := S.c0
    have S1 := S.c1
    have T0 := T.c0
    have T1 := T.c1
    have hs := S.lt
    have ht := T.lt
    obtain ⟨hl, A1, c1, rfl, _⟩ := V1.opened
    obtain ⟨bs, V⟩ : ∃ b, OwnI w10 b (.slice A1 ls.length c1) ls := ⟨_, V1⟩
    obtain ⟨q, hq⟩ : ∃ q, ls.length = q := ⟨_, rfl⟩
    have hql : ∀ j, j < q → ls[j]! ∈ ls := fun j hj => by
      rw [getElem!_pos ls j (by omega)]
      exact List.getElem_mem _
    have HQ := Lib.hid hql
    rw [hq] at V hl hlen ⊢
    clear V1 hql hl
    by_cases hZ : Z = 0
    · obtain ⟨l1, l2, l3, l4, l5, l6, Q0, Q1, U, hQ, hU⟩ := LAW.out hZ
      subst hZ
      subst l1
      clear LAW
      have con := fun W => i_YearSpan k2 (y2 + 1) W
      rw [hQ] at con
      dsimp only at con
      go_wp2_with fail
      refine (con _).mono ?_
      rintro e w11 ⟨rfl, hb⟩
      replace S := S.below hb S.lt
      replace V := V.below hb
      replace L := below_step L hb
      clear hb con T T0 T1 S0 S1
      have S0 := S.c0
      have S1 := S.c1
      have hs := S.lt
      rcases hU with ⟨rfl, rfl⟩ | rfl
      · go_wp2_with fail
        clear S0 S1 S
        go_loopw [23] (fun v wr => ∃ j : Nat, j ≤ q ∧ v = .int .i64 j ∧ OwnI wr bs (.slice A1 q c1) ls ∧ Below w.heap.size w wr) (fun v _ => q - (intOf v).toNat)
        case atStart => exact ⟨0, by omega, rfl, V.alloc _, below_more L L.size _⟩
        case round =>
          clear V L
          obtain ⟨j, hj, rfl, V, L⟩ := hrel
          by_cases hF : F = 0
          · subst hF
            by_cases hlt : j < q
            · obtain ⟨_, B1, d1', hsl, P⟩ := V.opened
              rw [hq] at hsl P
              obtain ⟨rfl, rfl⟩ : A1 = B1 ∧ c1 = d1' := by
                injection hsl with h1 h2 h3
                exact ⟨h1, h3⟩
              obtain ⟨g1', rfl, _, hg1, hc1, _⟩ := P (by omega)
              have cx := hc1 j hlt
              obtain ⟨hin, hmo, hdy, hyo⟩ := HMEM.out _ (HQ.out j hlt)
              obtain ⟨x, hx⟩ : ∃ x, ls[j]! = x := ⟨_, rfl⟩
              rw [hx] at cx hin hmo hdy hyo
              have con := fun W => i_OldDate x W hin
              rw [hmo, hdy] at con
              have con2 := fun W => i_YearOn k x W
              rw [hyo] at con2
              dsimp only at con2
              clear hmo hdy hyo hin hx hc1 P hsl
              go_wp2_with fail
              refine (con _).mono ?_
              rintro r wr2 ⟨rfl, hb⟩
              have cx2 := (hb.cell (p := ⟨g1', j, none⟩) hg1).trans cx
              have hg2 : g1' < wr2.heap.size := Nat.lt_of_lt_of_le hg1 hb.size
              replace V := V.below hb
              replace L := below_step L hb
              clear hb con cx hg1
              go_wp2_with fail
              refine (con2 _).mono ?_
              rintro r wr3 ⟨rfl, hb⟩
              have D := (Blk.new wr2 54 #[.int .i64 (yr x), .int .i64 m, .int .i64 d]).below hb (by simp)
              replace V := (V.alloc _).below hb
              replace L := below_step (below_more L L.size _) hb
              have D1 := D.c1
              have D2 := D.c2
              have hd := D.lt
              clear hb con2 cx2 hg2
              go_wp2_with fail
              go_roundw
              case rel => exact ⟨j + 1, by omega, by go_num, V, L⟩
              case measure => simp [intOf]; omega
            · obtain rfl : j = q := by omega
              have hq2 : (j : Int) ≤ 2 := by omega
              go_wp2_with fail
              go_ret
              refine ⟨?_, L⟩
              simp <;> omega
          · obtain rfl : ls = [] := herr hF
            simp at hq
            subst hq
            obtain rfl : j = 0 := by omega
            have hF' : decide (F = 0) = false := by simp [hF]
            go_wp2_with fail
            go_ret
            exact ⟨rfl, L⟩
      · go_wp2_with fail
        clear S0 S1 S
        go_loopw [23] (fun v wr => ∃ j : Nat, j ≤ q ∧ v = .int .i64 j ∧ OwnI wr bs (.slice A1 q c1) ls ∧ Below w.heap.size w wr) (fun v _ => q - (intOf v).toNat)
        case atStart => exact ⟨0, by omega, rfl, V.alloc _, below_more L L.size _⟩
        case round =>
          clear V L
          obtain ⟨j, hj, rfl, V, L⟩ := hrel
          by_cases hF : F = 0
          · subst hF
            by_cases hlt : j < q
            · obtain ⟨_, B1, d1', hsl, P⟩ := V.opened
              rw [hq] at hsl P
              obtain ⟨rfl, rfl⟩ : A1 = B1 ∧ c1 = d1' := by
                injection hsl with h1 h2 h3
                exact ⟨h1, h3⟩
              obtain ⟨g1', rfl, _, hg1, hc1, _⟩ := P (by omega)
              have cx := hc1 j hlt
              obtain ⟨hin, hmo, hdy, hyo⟩ := HMEM.out _ (HQ.out j hlt)
              obtain ⟨x, hx⟩ : ∃ x, ls[j]! = x := ⟨_, rfl⟩
              rw [hx] at cx hin hmo hdy hyo
              have con := fun W => i_OldDate x W hin
              rw [hmo, hdy] at con
              have con2 := fun W => i_YearOn k x W
              rw [hyo] at con2
              dsimp only at con2
              clear hmo hdy hyo hin hx hc1 P hsl
              go_wp2_with fail
              refine (con _).mono ?_
              rintro r wr2 ⟨rfl, hb⟩
              have cx2 := (hb.cell (p := ⟨g1', j, none⟩) hg1).trans cx
              have hg2 : g1' < wr2.heap.size := Nat.lt_of_lt_of_le hg1 hb.size
              replace V := V.below hb
              replace L := below_step L hb
              clear hb con cx hg1
              go_wp2_with fail
              refine (con2 _).mono ?_
              rintro r wr3 ⟨rfl, hb⟩
              have D := (Blk.new wr2 54 #[.int .i64 (yr x), .int .i64 m, .int .i64 d]).below hb (by simp)
              replace V := (V.alloc _).below hb
              replace L := below_step (below_more L L.size _) hb
              have D1 := D.c1
              have D2 := D.c2
              have hd := D.lt
              clear hb con2 cx2 hg2
              go_wp2_with fail
              go_roundw
              case rel => exact ⟨j + 1, by omega, by go_num, V, L⟩
              case measure => simp [intOf]; omega
            · obtain rfl : j = q := by omega
              have hq2 : (j : Int) ≤ 2 := by omega
              go_wp2_with fail
              go_ret
              refine ⟨?_, L⟩
              simp <;> omega
          · obtain rfl : ls = [] := herr hF
            simp at hq
            subst hq
            obtain rfl : j = 0 := by omega
            have hF' : decide (F = 0) = false := by simp [hF]
            go_wp2_with fail
            go_ret
            exact ⟨rfl, L⟩
    · clear LAW
      have hZ' : decide (Z = 0) = false := by simp [hZ]
      go_wp2_with fail
      have hzf : (Z == 0) = false := by simpa using hZ
      rw [hzf]
      clear S0 S1 S hZ hZ' hzf
      go_loopw [23] (fun v wr => ∃ j : Nat, j ≤ q ∧ v = .int .i64 j ∧ OwnI wr bs (.slice A1 q c1) ls ∧ Below w.heap.size w wr) (fun v _ => q - (intOf v).toNat)
      case atStart => exact ⟨0, by omega, rfl, V, L⟩
      case round =>
        clear V L
        obtain ⟨j, hj, rfl, V, L⟩ := hrel
        by_cases hF : F = 0
        · subst hF
          by_cases hlt : j < q
          · obtain ⟨_, B1, d1', hsl, P⟩ := V.opened
            rw [hq] at hsl P
            obtain ⟨rfl, rfl⟩ : A1 = B1 ∧ c1 = d1' := by
              injection hsl with h1 h2 h3
              exact ⟨h1, h3⟩
            obtain ⟨g1', rfl, _, hg1, hc1, _⟩ := P (by omega)
            have cx := hc1 j hlt
            obtain ⟨hin, hmo, hdy, hyo⟩ := HMEM.out _ (HQ.out j hlt)
            obtain ⟨x, hx⟩ : ∃ x, ls[j]! = x := ⟨_, rfl⟩
            rw [hx] at cx hin hmo hdy hyo
            have con := fun W => i_OldDate x W hin
            rw [hmo, hdy] at con
            have con2 := fun W => i_YearOn k x W
            rw [hyo] at con2
            dsimp only at con2
            clear hmo hdy hyo hin hx hc1 P hsl
            go_wp2_with fail
            refine (con _).mono ?_
            rintro r wr2 ⟨rfl, hb⟩
            have cx2 := (hb.cell (p := ⟨g1', j, none⟩) hg1).trans cx
            have hg2 : g1' < wr2.heap.size := Nat.lt_of_lt_of_le hg1 hb.size
            replace V := V.below hb
            replace L := below_step L hb
            clear hb con cx hg1
            go_wp2_with fail
            refine (con2 _).mono ?_
            rintro r wr3 ⟨rfl, hb⟩
            have D := (Blk.new wr2 54 #[.int .i64 (yr x), .int .i64 m, .int .i64 d]).below hb (by simp)
            replace V := (V.alloc _).below hb
            replace L := below_step (below_more L L.size _) hb
            have D1 := D.c1
            have D2 := D.c2
            have hd := D.lt
            clear hb con2 cx2 hg2
            go_wp2_with fail
            go_roundw
            case rel => exact ⟨j + 1, by omega, by go_num, V, L⟩
            case measure => simp [intOf]; omega
          · obtain rfl : j = q := by omega
            have hq2 : (j : Int) ≤ 2 := by omega
            go_wp2_with fail
            go_ret
            refine ⟨?_, L⟩
            simp <;> omega
        · obtain rfl : ls = [] := herr hF
          simp at hq
          subst hq
          obtain rfl : j = 0 := by omega
          have hF' : decide (F = 0) = false := by simp [hF]
          go_wp2_with fail
          go_ret
          exact ⟨rfl, L⟩
end Go.Proofs.Ytffpaedhdjnbjaa.fnStyleDays
