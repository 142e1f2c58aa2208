/- A year has its own mark, and the years with a mark have it: the walk. No condition. -/
import Derived.Test.YtffpaedhdjnbjaaRows
import Derived.Test.YtffpaedhdjnbjaaKit
import Derived.Test.YtffpaedhdjnbjaaYearsMarkedS
import Derived.Test.YtffpaedhdjnbjaaLike
import Derived.Test.YtffpaedhdjnbjaaDrawY
import Derived.Test.YtffpaedhdjnbjaaMem
namespace Go.Proofs.Ytffpaedhdjnbjaa.fnYearMarks
open Go.RowKit
set_option linter.unusedVariables false
theorem mem_dls {i e c z : Int} {a : Int} {k : Nat} (h : z ∈ dls (ymG i e c) a k) : a ≤ z ∧ z < a + k ∧ ymHit i e c z = true := by
  induction k with
  | zero => simp [dls] at h
  | succ k ih =>
    simp only [dls, List.mem_append] at h
    rcases h with h | h
    · obtain ⟨h1, h2, h3⟩ := ih h
      exact ⟨h1, by omega, h3⟩
    · unfold ymG at h
      split at h
      · rename_i hh
        simp at h
        subst h
        exact ⟨by omega, by omega, hh⟩
      · simp at h
theorem mem_ymF {i e c f t z : Int} (h : z ∈ (ymF i e c f t).1) : inB z 1 2000 = true ∧ ymHit i e c z = true := by
  unfold ymF at h
  split at h
  · split at h
    · rename_i hr
      obtain ⟨h1, h2, h3, h4, h5, h6⟩ := ymR_iff.1 hr
      obtain ⟨g1, g2, g3⟩ := mem_dls h
      exact ⟨inB_iff.2 ⟨by omega, by omega⟩, g3⟩
    · simp at h
  · simp at h
theorem err_ymF {i e c f t : Int} (h : (ymF i e c f t).2 ≠ 0) : (ymF i e c f t).1 = [] := by
  unfold ymF at h ⊢
  split at h
  · split at h
    · simp at h
    · rename_i h1 h2
      simp [h1, h2]
  · rename_i h1
    simp [h1]
/-- what the law asks of a year with the mark -/
theorem hit_law {i e c z : Int} (h : inB z 1 2000 = true) (hh : ymHit i e c z = true) : ∃ I E C, markF z = ((I, E, C), 0) ∧ ((0 < i ∧ I = i) ∨ ¬ 0 < i) ∧ ((0 ≤ e ∧ E = e) ∨ ¬ 0 ≤ e) ∧ ((0 < c ∧ C = c) ∨ ¬ 0 < c) := by
  refine ⟨_, _, _, by unfold markF; rw [if_pos h], ?_⟩
  unfold ymHit at hh
  simp only [Bool.and_eq_true, Bool.or_eq_true, decide_eq_true_eq] at hh
  obtain ⟨⟨h1, h2⟩, h3⟩ := hh
  omega
/-- a year has its mark -/
theorem back_law {y I E C : Int} (h : markF y = ((I, E, C), 0)) : ymF I E C y y = ([y], 0) := by
  unfold markF at h
  split at h
  · rename_i hy
    obtain ⟨y0, y1⟩ := inB_iff.1 hy
    simp only [Prod.mk.injEq] at h
    obtain ⟨⟨rfl, rfl, rfl⟩, _⟩ := h
    have hc : 1 ≤ conc y ∧ conc y ≤ 7 := by unfold conc; omega
    have hm : isMarkB ((y + 2) % 15 + 1) (11 * (y % 19) % 30) (conc y) = true := isMarkB_iff.2 ⟨inB_iff.2 ⟨by omega, by omega⟩, inB_iff.2 ⟨by omega, by omega⟩, inB_iff.2 ⟨by omega, by omega⟩⟩
    unfold ymF
    rw [if_pos hm, if_pos (ymR_iff.2 ⟨y0, y1, y0, y1, by omega, by omega⟩), show (y + 1 - y).toNat = 1 from by omega]
    have hh : ymHit ((y + 2) % 15 + 1) (11 * (y % 19) % 30) (conc y) y = true := by simp [ymHit]
    simp [dls, ymG, hh]
  · simp at h
theorem three_marks (y : Int) : ∃ I E C Z, markF y = ((I, E, C), Z) ∧ epF y = (E, Z) ∧ concF y = (C, Z) := by
  by_cases h : inB y 1 2000 = true
  · exact ⟨_, _, _, _, by unfold markF; rw [if_pos h], by unfold epF; rw [if_pos h], by unfold concF; rw [if_pos h]⟩
  · exact ⟨_, _, _, _, by unfold markF; rw [if_neg h], by unfold epF; rw [if_neg h], by unfold concF; rw [if_neg h]⟩
set_option maxRecDepth 100000 in
set_option maxHeartbeats 4000000 in
theorem walk (a : Option Addr) (n c : Nat) (xs : List Int) (hn : n ≤ 9223372036854775807) {w : World} (hI : InB w a n xs) (hx : ∀ i, 0 ≤ xs.getD i 0 ∧ xs.getD i 0 ≤ 255) (_ : World) : Calls Try.prog 4 #[.slice a n c] w fun e w' => e = .returned (.bool true) ∧ Below w.heap.size w w' := by
  have con := l_big' a n c w
  by_cases hbig : (4096 : Int) < n
  · simp only [hbig, decide_true] at con
    go_enter Try.func4, Try.ntmps4
    go_wp2_with fail
    refine con.mono ?_
    rintro e w1 ⟨rfl, L1⟩
    go_wp2_with fail
    go_ret
    exact ⟨rfl, L1⟩
  · simp only [hbig, decide_false] at con
    have hn' : n ≤ 4096 := by omega
    have hIB : ∀ W : World, Below w.heap.size w W → InB W a n xs := fun W h => hI.below h
    have HIB := Lib.hid hIB
    have HX := Lib.hid hx
    clear hIB hx hI
    go_enter Try.func4, Try.ntmps4
    go_wp2_with fail
    refine con.mono ?_
    rintro e w1 ⟨rfl, L⟩
    clear con hbig
    go_wp2_with fail
    refine (d_MarkOf a n c xs _ (HIB.out _ L) hn' HX.out).mono ?_
    rintro e w2 ⟨⟨y, rfl, y0, y1⟩, hb⟩
    replace L := below_step L hb
    clear hb
    have im := fun W => i_MarkOf y W
    have sm := fun W => s_MarkOf y W
    have ie := fun W => i_EpactOf y W
    have se := fun W => s_EpactOf y W
    have ic := fun W => i_ConcurrentOf y W
    have sc := fun W => s_ConcurrentOf y W
    obtain ⟨I, E, C, Z, hM, hE, hC⟩ := three_marks y
    rw [hM] at im sm
    rw [hE] at ie se
    rw [hC] at ic sc
    dsimp only at im sm ie se ic sc
    have hback : Z = 0 → ymF I E C y y = ([y], 0) := fun h => back_law (by rw [hM, h])
    have IM := Lib.hid im
    have SM := Lib.hid sm
    have IE := Lib.hid ie
    have SE := Lib.hid se
    have IC := Lib.hid ic
    have SC := Lib.hid sc
    have HB := Lib.hid hback
    clear im sm ie se ic sc hback hM hE hC
    go_wp2_with fail
    refine (IM.out _).mono ?_
    rintro e w3 ⟨rfl, hb⟩
    replace L := below_step L hb
    clear hb IM
    go_wp2_with fail
    refine (SM.out _).mono ?_
    rintro e w4 ⟨rfl, hb⟩
    have M := (Blk.new w3 32 #[.int .i64 I, .int .i64 E, .int .i64 C]).below hb (by simp)
    replace L := below_step (below_more L L.size _) hb
    have hm := M.lt
    clear hb SM
    go_wp2_with fail
    refine (IE.out _).mono ?_
    rintro e w5 ⟨rfl, hb⟩
    have N := (Blk.new w4 32 #[.int .i64 I, .int .i64 E, .int .i64 C]).below hb (by simp)
    replace M := (M.alloc _).below hb (by simp; omega)
    replace L := below_step (below_more L L.size _) hb
    clear hb IE
    go_wp2_with fail
    refine (SE.out _).mono ?_
    rintro e w6 ⟨rfl, rfl⟩
    clear SE
    go_wp2_with fail
    refine (IC.out _).mono ?_
    rintro e w7 ⟨rfl, hb⟩
    replace M := M.below hb M.lt
    replace N := N.below hb N.lt
    replace L := below_step L hb
    clear hb IC
    go_wp2_with fail
    refine (SC.out _).mono ?_
    rintro e w8 ⟨rfl, hb⟩
    replace M := M.below hb M.lt
    replace N := N.below hb N.lt
    replace L := below_step L hb
    clear hb SC
    go_wp2_with fail
    refine (d_YearsMarked a n c xs _ (HIB.out _ L) hn' HX.out).mono ?_
    rintro e w9 ⟨⟨i, e, k, f, t, rfl⟩, hb⟩
    replace M := M.below hb M.lt
    replace N := N.below hb N.lt
    replace L := below_step L hb
    have hm := M.lt
    have hnn := N.lt
    clear hb HIB HX
    go_wp2_with fail
    refine (i_YearsMarked _ _ _ _ _ _).mono ?_
    rintro e w10 ⟨v1, rfl, V1, hb⟩
    have D := (Blk.new w9 32 #[.int .i64 i, .int .i64 e, .int .i64 k]).below hb (by simp)
    replace M := (M.alloc _).below hb (by simp; omega)
    replace N := (N.alloc _).below hb (by simp; omega)
    replace L := below_step (below_more L L.size _) hb
    have D0 := D.c0
    have D1 := D.c1
    have D2 := D.c2
    have hd := D.lt
    clear hb
    go_wp2_with fail
    refine (s_YearsMarked _ _ _ _ _ _).mono ?_
    rintro e w11 ⟨v2, rfl, V2, hb⟩
    replace M := M.below hb M.lt
    replace N := N.below hb N.lt
    replace D := D.below hb D.lt
    replace V1 := V1.below hb
    replace L := below_step L hb
    clear hb
    have hlen := ymF_len i e k f t
    have hmem := fun z => mem_ymF (i := i) (e := e) (c := k) (f := f) (t := t) (z := z)
    have herr := err_ymF (i := i) (e := e) (c := k) (f := f) (t := t)
    obtain ⟨⟨ls, F⟩, hls⟩ : ∃ p, ymF i e k f t = p := ⟨_, rfl⟩
    rw [hls] at V1 V2 hlen herr ⊢
    simp only [hls] at hmem
    dsimp only at V1 V2 hlen hmem herr ⊢
    have HMEM := Lib.hid hmem
    clear hls hmem
    have M0 := M.c0
    have M1 := M.c1
    have M2 := M.c2
    have N0 := N.c0
    have N1 := N.c1
    have N2 := N.c2
    have D0 := D.c0
    have D1 := D.c1
    have D2 := D.c2
    have hm := M.lt
    have hnn := N.lt
    have hd := D.lt
    have V1d : OwnI w11.drew _ _ _ := V1
    have V2d : OwnI w11.drew _ _ _ := V2
    replace L := below_drewN L 1
    have hlike := like_same _ V1d V2d
    go_wp2_with fail
    go_region_held3 (fun W => W.cell? ⟨w3.heap.size, 0, none⟩ = some (.int .i64 I) ∧ W.cell? ⟨w3.heap.size, 1, none⟩ = some (.int .i64 E) ∧ W.cell? ⟨w3.heap.size, 2, none⟩ = some (.int .i64 C) ∧ W.cell? ⟨w4.heap.size, 0, none⟩ = some (.int .i64 I) ∧ W.cell? ⟨w4.heap.size, 1, none⟩ = some (.int .i64 E) ∧ W.cell? ⟨w4.heap.size, 2, none⟩ = some (.int .i64 C) ∧ W.cell? ⟨w9.heap.size, 0, none⟩ = some (.int .i64 i) ∧ W.cell? ⟨w9.heap.size, 1, none⟩ = some (.int .i64 e) ∧ W.cell? ⟨w9.heap.size, 2, none⟩ = some (.int .i64 k))
      (first | go_keep | exact ⟨M0, M1, M2, N0, N1, N2, D0, D1, D2⟩)
      (first
        | (go_at_call 23; refine hlike.mono ?_; rintro r w12 ⟨rfl, hb⟩; replace M := M.drew.below hb M.lt; replace N := N.drew.below hb N.lt; replace D := D.drew.below hb D.lt; replace V1 := V1d.below hb; replace L := L.trans (hb.mono L.size); replace M0 := M.c0; replace M1 := M.c1; replace M2 := M.c2; replace N0 := N.c0; replace N1 := N.c1; replace N2 := N.c2; replace D0 := D.c0; replace D1 := D.c1; replace D2 := D.c2; replace hm := M.lt; replace hnn := N.lt; replace hd := D.lt; clear hb)
        | (go_at_call 24; refine (i_IsYearMark _ _ _ _).mono ?_; rintro r w13 ⟨rfl, hb⟩; replace M := M.below hb M.lt; replace N := N.below hb N.lt; replace D := D.below hb D.lt; replace V1 := V1.below hb; replace L := L.trans (hb.mono L.size); replace M0 := M.c0; replace M1 := M.c1; replace M2 := M.c2; replace N0 := N.c0; replace N1 := N.c1; replace N2 := N.c2; replace D0 := D.c0; replace D1 := D.c1; replace D2 := D.c2; replace hm := M.lt; replace hnn := N.lt; replace hd := D.lt; clear hb)
        | (go_at_call 25; refine (s_IsYearMark _ _ _ _).mono ?_; rintro r w13 ⟨rfl, hb⟩; replace M := M.below hb M.lt; replace N := N.below hb N.lt; replace D := D.below hb D.lt; replace V1 := V1.below hb; replace L := L.trans (hb.mono L.size); replace M0 := M.c0; replace M1 := M.c1; replace M2 := M.c2; replace N0 := N.c0; replace N1 := N.c1; replace N2 := N.c2; replace D0 := D.c0; replace D1 := D.c1; replace D2 := D.c2; replace hm := M.lt; replace hnn := N.lt; replace hd := D.lt; clear hb))
    obtain ⟨hl, A1, c1, rfl, _⟩ := V1.opened
    obtain ⟨bs, hV⟩ : ∃ b, OwnI w13 b (.slice A1 ls.length c1) ls := ⟨_, V1⟩
    obtain ⟨q, hq⟩ : ∃ q, ls.length = q := ⟨_, rfl⟩
    have hql : ∀ j, j < q → ls[j]! ∈ ls := fun j hj => by
      rw [getElem!_pos ls j (by omega)]
      exact List.getElem_mem _
    have HQ := Lib.hid hql
    rw [hq] at hV hl hlen ⊢
    clear V1 V2 V2d hlike hql hl
    go_wp2_with fail
    clear M0 M1 M2 N0 N1 N2 D0 D1 D2
    go_loopw [23] (fun v wr => ∃ j : Nat, j ≤ q ∧ v = .int .i64 j ∧ OwnI wr bs (.slice A1 q c1) ls ∧ Blk wr w3.heap.size 32 #[.int .i64 I, .int .i64 E, .int .i64 C] ∧ Blk wr w9.heap.size 32 #[.int .i64 i, .int .i64 e, .int .i64 k] ∧ Below w.heap.size w wr) (fun v _ => q - (intOf v).toNat)
    case atStart => exact ⟨0, by omega, rfl, hV, M, D, L⟩
    case round =>
      clear hV M D L
      obtain ⟨j, hj, rfl, V, M, D, L⟩ := hrel
      have M0 := M.c0
      have M1 := M.c1
      have M2 := M.c2
      have D0 := D.c0
      have D1 := D.c1
      have D2 := D.c2
      have hm := M.lt
      have hd := D.lt
      by_cases hF : F = 0
      · subst hF
        by_cases hlt : j < q
        · obtain ⟨_, B1, d1, hsl, P⟩ := V.opened
          rw [hq] at hsl P
          obtain ⟨rfl, rfl⟩ : A1 = B1 ∧ c1 = d1 := by
            injection hsl with h1 h2 h3
            exact ⟨h1, h3⟩
          obtain ⟨g1, rfl, _, _, hc1, _⟩ := P (by omega)
          have cx := hc1 j hlt
          obtain ⟨hin, hhit⟩ := HMEM.out _ (HQ.out j hlt)
          obtain ⟨x, hx⟩ : ∃ x, ls[j]! = x := ⟨_, rfl⟩
          rw [hx] at cx hin hhit
          obtain ⟨I', E', C', hmk, hi, he, hk⟩ := hit_law hin hhit
          have con := fun W => i_MarkOf x W
          rw [hmk] at con
          dsimp only at con
          clear hmk hin hhit hx hc1 P hsl
          go_wp2_with fail
          refine (con _).mono ?_
          rintro r wr2 ⟨rfl, hb⟩
          replace V := V.below hb
          replace M := M.below hb M.lt
          replace D := D.below hb D.lt
          replace L := below_step L hb
          clear hb con M0 M1 M2 cx
          have D0 := D.c0
          have D1 := D.c1
          have D2 := D.c2
          have hm := M.lt
          have hd := D.lt
          rcases hi with ⟨hi, rfl⟩ | hi
          all_goals
            rcases he with ⟨he, rfl⟩ | he
            all_goals
              rcases hk with ⟨hk, rfl⟩ | hk
              all_goals
                go_wp2_with fail
                go_roundw
                case rel => exact ⟨j + 1, by omega, by go_num, V.alloc _, M.alloc _, D.alloc _, below_more L L.size _⟩
                case measure => simp [intOf]; omega
        · obtain rfl : j = q := by omega
          by_cases hZ : Z = 0
          · subst hZ
            have con := fun W => i_YearsMarked I E C y y W
            rw [HB.out rfl] at con
            dsimp only at con
            go_wp2_with fail
            refine (con _).mono ?_
            rintro r wt ⟨v3, rfl, V3, hb⟩
            replace M := M.below hb M.lt
            replace L := below_step L hb
            clear hb con
            go_wp2_with fail
            refine (like_same _ (V3.alloc _) (OwnI.lit1 _ _)).mono ?_
            rintro r wu ⟨rfl, hb⟩
            replace M := (M.alloc _).below hb (by simp; have := M.lt; omega)
            replace L := below_step (below_more L L.size _) hb
            clear hb
            have M0 := M.c0
            have M1 := M.c1
            have M2 := M.c2
            have hm := M.lt
            go_wp2_with fail
            go_ret
            exact ⟨rfl, L⟩
          · go_wp2_with fail
            go_ret
            exact ⟨rfl, L⟩
      · obtain rfl : ls = [] := herr hF
        simp at hq
        subst hq
        obtain rfl : j = 0 := by omega
        have hF' : decide (F = 0) = false := by simp [hF]
        by_cases hZ : Z = 0
        · subst hZ
          have con := fun W => i_YearsMarked I E C y y W
          rw [HB.out rfl] at con
          dsimp only at con
          go_wp2_with fail
          refine (con _).mono ?_
          rintro r wt ⟨v3, rfl, V3, hb⟩
          replace M := M.below hb M.lt
          replace L := below_step L hb
          clear hb con
          go_wp2_with fail
          refine (like_same _ (V3.alloc _) (OwnI.lit1 _ _)).mono ?_
          rintro r wu ⟨rfl, hb⟩
          replace M := (M.alloc _).below hb (by simp; have := M.lt; omega)
          replace L := below_step (below_more L L.size _) hb
          clear hb
          have M0 := M.c0
          have M1 := M.c1
          have M2 := M.c2
          have hm := M.lt
          go_wp2_with fail
          go_ret
          exact ⟨rfl, L⟩
        · go_wp2_with fail
          go_ret
          exact ⟨rfl, L⟩
end Go.Proofs.Ytffpaedhdjnbjaa.fnYearMarks
