/- The days of a year in a style with a month and a day: the program's and the reference's functions return what the plain function says. Conditions: the bounds that stand in the theorems. -/
import Derived.Test.YtffpaedhdjnbjaaDays0
import Derived.Test.YtffpaedhdjnbjaaOld
import Derived.Test.YtffpaedhdjnbjaaSlices
import Derived.Deep.RegionHeld3
import Derived.Deep.RegionWith
namespace Go.Proofs.Ytffpaedhdjnbjaa
open Go.RowKit
set_option maxHeartbeats 1000000 in
theorem i_daysWith (s yy m d : Int) (w : World) (hs : inB s 0 6 = true) (h0 : 2 ≤ yy) (h1 : yy ≤ 1999) : Calls Try.prog 75 #[.int .i64 s, .int .i64 yy, .int .i64 m, .int .i64 d] w fun e w' => ∃ v, e = .returned v ∧ OwnI w' w.heap.size v (dws s yy m d) ∧ Below w.heap.size w w' := by
  have hF : dws s yy m d = dls (dwF m d (beg s yy) (beg s (yy + 1) - 1)) (yy - 1) 3 := rfl
  obtain ⟨f, hf⟩ : ∃ f, beg s yy = f := ⟨_, rfl⟩
  obtain ⟨t, ht⟩ : ∃ t, beg s (yy + 1) - 1 = t := ⟨_, rfl⟩
  have con := fun W : World => i_span s yy W hs h0 h1
  rw [hf, ht] at hF
  simp only [hf, ht] at con
  rw [hF]
  clear hF hf ht
  have CON := Lib.hid con; clear con
  go_enter Try.func75, Try.ntmps75
  go_wp2_with fail
  refine (CON.out _).mono ?_
  rintro e w1 ⟨rfl, hb1⟩
  have own1 := (OwnI.lit0 w).below hb1
  have hB1 := below_step (below_alloc _ _) hb1
  clear hb1
  go_wp2_with fail
  go_loopw [9, 11] (fun v i wr => ∃ k : Nat, k ≤ 3 ∧ i = .int .i64 (yy - 1 + k) ∧ OwnI wr w.heap.size v (dls (dwF m d f t) (yy - 1) k) ∧ Blk wr w1.heap.size 49 #[.int .i64 f, .int .i64 t] ∧ Below w.heap.size w wr) (fun _ i _ => (yy + 2 - intOf i).toNat)
  case atStart => exact ⟨0, by omega, by simp, own1.alloc _, Blk.new _ _ _, below_more hB1 hB1.size _⟩
  case round =>
    obtain ⟨k, hk, rfl, hown, hblk, hB⟩ := hrel
    clear own1 hB1
    have hlen := dls_len m d f t (yy - 1) k
    have hw := hB.size
    have hs' : dls (dwF m d f t) (yy - 1) (k + 1) = dls (dwF m d f t) (yy - 1) k ++ dwF m d f t (yy - 1 + k) := rfl
    obtain ⟨y, hy⟩ : ∃ y : Int, yy - 1 + k = y := ⟨_, rfl⟩
    have hy' : yy - 1 + ((k + 1 : Nat) : Int) = y + 1 := by omega
    have k0 : y ≤ yy - 1 + k := by omega
    have k1 : yy - 1 + k ≤ y := by omega
    rw [hy] at hs' ⊢
    clear hy
    have HY := Lib.hid hy'; clear hy'
    have cG0 := hblk.c0
    have cG1 := hblk.c1
    have hG := hblk.lt
    by_cases hlt : y ≤ yy + 1
    · obtain ⟨b, hv⟩ : ∃ b, validB y m d = b := ⟨_, rfl⟩
      cases b
      · rw [dwF_F hv, List.append_nil] at hs'
        have HS := Lib.hid hs'; clear hs'
        have HV := Lib.hid hv; clear hv
        go_wp2_with fail
        refine (toBelowB (i_old _ _ _ _) HV.out).mono ?_
        rintro e w2 ⟨rfl, hb2⟩
        go_wp2_with fail
        go_roundw
        case rel => exact ⟨k + 1, by omega, by rw [HY.out], by rw [HS.out]; exact (hown.alloc _).below hb2, (hblk.alloc _).below hb2 (by simp; omega), below_step' hB hb2⟩
        case measure => simp [intOf]; omega
      · obtain ⟨v0, v1, v2, v3, v4, v5⟩ := validB_iff.1 hv
        have ml := mlen_bd y m
        obtain ⟨b, hi⟩ : ∃ b, inB (num y m d) f t = b := ⟨_, rfl⟩
        cases b
        all_goals
          first
            | rw [dwF_T hv hi] at hs'
            | rw [dwF_N hi, List.append_nil] at hs'
          have HV := Lib.hid hv; clear hv
          have HI := Lib.hid hi; clear hi
          have HS := Lib.hid hs'; clear hs'
          go_wp2_with fail
          refine (toBelowB (i_old _ _ _ _) HV.out).mono ?_
          rintro e w2 ⟨rfl, hb2⟩
          obtain ⟨hc2, hf2⟩ := bcell hb2
          have hz2 : wr.heap.size < w2.heap.size := by have := hb2.size; simp at this; omega
          go_wp2_with fail
          refine (i_num _ _ _ _ (by omega) (by omega) (by omega) (by omega) (by omega) (by omega)).mono ?_
          rintro e w3 ⟨rfl, hb3⟩
          have hz3 : wr.heap.size < w3.heap.size := by have := hb3.size; omega
          have hown3 := ((hown.alloc (.cells #[.int .i64 y, .int .i64 m, .int .i64 d] 54)).below hb2).below hb3
          have hblk3 := ((hblk.alloc (.cells #[.int .i64 y, .int .i64 m, .int .i64 d] 54)).below hb2 (by simp; omega)).below hb3 (by omega)
          have hB3 := hB.trans ((below_step (below_step (below_alloc _ _) hb2) hb3).mono hw)
          clear hb2 hb3
          have cH0 := hblk3.c0
          have cH1 := hblk3.c1
          go_wp2_with fail
          refine (toB (i_in _ _ _ _) HI.out).mono ?_
          rintro e w4 ⟨rfl, rfl⟩
        · go_wp2_with fail
          go_roundw
          case rel => exact ⟨k + 1, by omega, by rw [HY.out], by rw [HS.out]; exact hown3, hblk3, hB3⟩
          case measure => simp [intOf]; omega
        · go_wp2_with (at_builtin; refine wpList_appI rfl _ _ rfl _ _ _ _ _ rfl hown3 rfl (by omega) (by omega) ?_; intro v' w5 hown5 hg5)
          go_roundw
          case rel => exact ⟨k + 1, by omega, by rw [HY.out], by rw [HS.out]; exact hown5, hown3.blk hblk3 hg5 (by decide), hown3.below_grown hB3 hg5 (by omega)⟩
          case measure => simp [intOf]; omega
    · obtain rfl : k = 3 := by omega
      go_wp2_with fail
      go_ret
      exact ⟨_, rfl, hown, hB⟩
set_option maxHeartbeats 4000000 in
theorem s_l06Days (f t m d : Int) (w : World) (f0 : 0 ≤ f) (t0 : 0 ≤ t) (f1 : f ≤ 730499) (t1 : t ≤ 730499) (hft : yr f ≤ yr t) (h3 : yr t ≤ yr f + 2) : Calls Try.prog 79 #[.agg #[.int .i64 f, .int .i64 t], .int .i64 m, .int .i64 d] w fun e w' =>
    ∃ v, e = .returned v ∧ OwnI w' w.heap.size v (dls (dwF m d f t) (yr f) (yr t + 1 - yr f).toNat) ∧ Below w.heap.size w w' := by
  obtain ⟨n, hn⟩ : ∃ n, (yr t + 1 - yr f).toNat = n := ⟨_, rfl⟩
  have n0 : yr f + n ≤ yr t + 1 := by omega
  have n1 : yr t + 1 ≤ yr f + n := by omega
  rw [hn]; clear hn
  obtain ⟨yf0, yf1⟩ := yr_bd f f0 f1
  obtain ⟨yt0, yt1⟩ := yr_bd t t0 t1
  have fd := fieldD0
  go_enter Try.func79, Try.ntmps79
  go_wp2_with fail
  refine (s_l01Old _ _ f0 f1).mono ?_
  rintro e w1 ⟨rfl, hb1⟩
  have own1 := ((OwnI.lit0 (w.alloc (.cells #[.int .i64 f, .int .i64 t] 49))).below hb1).mono (b' := w.heap.size) (by simp)
  have hblk1 := ((Blk.new w 49 #[.int .i64 f, .int .i64 t]).alloc (.cells #[] 2)).below hb1 (by simp; omega)
  have hB1 := below_step (below_more (below_alloc w (.cells #[.int .i64 f, .int .i64 t] 49)) (by simp) (.cells #[] 2)) hb1
  clear hb1
  go_wp2_with fail
  go_loopw [7, 8] (fun v i wr => ∃ k : Nat, k ≤ n ∧ i = .int .i64 (yr f + k) ∧ OwnI wr w.heap.size v (dls (dwF m d f t) (yr f) k) ∧ Blk wr w.heap.size 49 #[.int .i64 f, .int .i64 t] ∧ Below w.heap.size w wr) (fun _ i _ => (yr t + 1 - intOf i).toNat)
  case atStart => exact ⟨0, by omega, by simp, by simpa [dls] using own1, hblk1, hB1⟩
  case round =>
    obtain ⟨k, hk, rfl, hown, hblk, hB⟩ := hrel
    clear own1 hB1 hblk1
    have hlen := dls_len m d f t (yr f) k
    have hw := hB.size
    have hs' : dls (dwF m d f t) (yr f) (k + 1) = dls (dwF m d f t) (yr f) k ++ dwF m d f t (yr f + k) := rfl
    obtain ⟨y, hy⟩ : ∃ y : Int, yr f + k = y := ⟨_, rfl⟩
    have hy' : yr f + ((k + 1 : Nat) : Int) = y + 1 := by omega
    have k0 : y ≤ yr f + k := by omega
    have k1 : yr f + k ≤ y := by omega
    rw [hy] at hs' ⊢
    clear hy
    have HY := Lib.hid hy'; clear hy'
    have cG0 := hblk.c0
    have cG1 := hblk.c1
    have hG := hblk.lt
    go_wp2_with fail
    refine (s_l01Old _ _ t0 t1).mono ?_
    rintro e w2 ⟨rfl, hb2⟩
    replace hown := hown.below hb2
    replace hblk := hblk.below hb2 hG
    replace hB := hB.trans (hb2.mono hw)
    replace hw := hB.size
    clear hb2 cG0 cG1 hG
    have cG0 := hblk.c0
    have cG1 := hblk.c1
    have hG := hblk.lt
    have hG1 : w.heap.size < w2.heap.size + 1 := by omega
    by_cases hlt : y ≤ yr t
    · obtain ⟨b, hv⟩ : ∃ b, validB y m d = b := ⟨_, rfl⟩
      cases b
      · rw [dwF_F hv, List.append_nil] at hs'
        have HS := Lib.hid hs'; clear hs'
        have HV := Lib.hid hv; clear hv
        go_wp2_with fail
        refine wp_region_any (by kernel_rfl) ?_
        change wpAny _ _ _ _ _ _ _ (World.drew _)
        refine wpAny_ready (rs := [0]) (by kernel_rfl) (by simp) ?_
        refine AllReady.cons rfl (fun K hK => ?_) AllReady.nil
        go_simp
        refine hK _ _ ?_
        clear hK K
        refine wpAny_ready (rs := [1]) (by kernel_rfl) (by simp) ?_
        refine AllReady.cons rfl (fun K hK => ?_) AllReady.nil
        go_simp
        go_wp2_with (go_at_call 78; refine (toBelowB (s_old _ _ _ _) HV.out).mono ?_; rintro e w3 ⟨rfl, hb3⟩)
        refine wpAny_take (i := 2) (v := .bool false) rfl (by kernel_rfl) (by kernel_rfl) (by kernel_rfl) (fun _ _ _ h => h) (Or.inl ⟨by kernel_rfl, fun W => by go_simp⟩) ?_
        simp only [Act.put]
        refine wpAny_take (i := 3) (v := undef) rfl (by kernel_rfl) (by kernel_rfl) (by kernel_rfl) (fun _ _ _ h => h) (Or.inr ⟨by kernel_rfl, rfl⟩) ?_
        simp only [Act.put]
        refine wpAny_take (i := 4) (v := undef) rfl (by kernel_rfl) (by kernel_rfl) (by kernel_rfl) (fun _ _ _ h => h) (Or.inr ⟨by kernel_rfl, rfl⟩) ?_
        simp only [Act.put]
        refine wpAny_take (i := 5) (v := undef) rfl (by kernel_rfl) (by kernel_rfl) (by kernel_rfl) (fun _ _ _ h => h) (Or.inr ⟨by kernel_rfl, rfl⟩) ?_
        simp only [Act.put]
        refine wpAny_take (i := 6) (v := undef) rfl (by kernel_rfl) (by kernel_rfl) (by kernel_rfl) (fun _ _ _ h => h) (Or.inr ⟨by kernel_rfl, rfl⟩) ?_
        simp only [Act.put]
        refine wpAny_take (i := 7) (v := undef) rfl (by kernel_rfl) (by kernel_rfl) (by kernel_rfl) (fun _ _ _ h => h) (Or.inr ⟨by kernel_rfl, rfl⟩) ?_
        simp only [Act.put]
        refine wpAny_ready (rs := [8]) (by kernel_rfl) (by simp) ?_
        refine AllReady.cons rfl (fun K hK => ?_) AllReady.nil
        go_simp
        refine hK _ _ ?_
        clear hK K
        refine wpAny_ready (rs := [9]) (by kernel_rfl) (by simp) ?_
        refine AllReady.cons rfl (fun K hK => ?_) AllReady.nil
        go_simp
        refine hK _ _ ?_
        clear hK K
        refine wpAny_ready (rs := [10]) (by kernel_rfl) (by simp) ?_
        refine AllReady.cons rfl (fun K hK => ?_) AllReady.nil
        go_simp
        refine hK _ _ ?_
        clear hK K
        refine wpAny_done (by kernel_rfl) ?_ _
        have hb3' : Below (w2.alloc (.cells #[.int .i64 y, .int .i64 m, .int .i64 d] 54)).heap.size (w2.alloc (.cells #[.int .i64 y, .int .i64 m, .int .i64 d] 54)) w3 := ⟨hb3.os, hb3.tape, hb3.output, hb3.size, hb3.block⟩
        clear hb3
        go_wp2
        go_roundw
        case rel => exact ⟨k + 1, by omega, by rw [HY.out], by rw [HS.out]; exact (hown.alloc _).below hb3', (hblk.alloc _).below hb3' (by simp; omega), below_step' hB hb3'⟩
        case measure => simp [intOf]; omega
      · obtain ⟨v0, v1, v2, v3, v4, v5⟩ := validB_iff.1 hv
        have ml := mlen_bd y m
        obtain ⟨b, hi⟩ : ∃ b, inB (num y m d) f t = b := ⟨_, rfl⟩
        cases b
        all_goals
          first
            | rw [dwF_T hv hi] at hs'
            | rw [dwF_N hi, List.append_nil] at hs'
          have HV := Lib.hid hv; clear hv
          have HI := Lib.hid hi; clear hi
          have HS := Lib.hid hs'; clear hs'
          go_wp2_with fail
          go_region_held3 (fun W => W.cell? ⟨w.heap.size, 0, none⟩ = some (.int .i64 f) ∧ W.cell? ⟨w.heap.size, 1, none⟩ = some (.int .i64 t) ∧ W.cell? ⟨w2.heap.size, 0, none⟩ = some (.int .i64 y) ∧ W.cell? ⟨w2.heap.size, 1, none⟩ = some (.int .i64 m) ∧ W.cell? ⟨w2.heap.size, 2, none⟩ = some (.int .i64 d))
            (first | go_keep)
            (first
              | (go_at_call 78; refine (toBelowB (s_old _ _ _ _) HV.out).mono ?_; rintro e w3 ⟨rfl, hb3⟩; obtain ⟨hc3, hf3⟩ := bcell hb3; have hz3 : w2.heap.size < w3.heap.size := (by have := hb3.size; simp at this; omega); have hG3 : w.heap.size < w3.heap.size := by omega)
              | (go_at_call 85; refine (s_num _ _ _ _ (by omega) (by omega) (by omega) (by omega) (by omega) (by omega)).mono ?_; rintro e w4 ⟨rfl, hb4⟩; obtain ⟨hc4, hf4⟩ := bcell hb4)
              | (go_at_call 48; refine (toB (s_in _ _ _ _) HI.out).mono ?_; rintro e w5 ⟨rfl, rfl⟩))
          have hb3' : Below (w2.alloc (.cells #[.int .i64 y, .int .i64 m, .int .i64 d] 54)).heap.size (w2.alloc (.cells #[.int .i64 y, .int .i64 m, .int .i64 d] 54)) w3 := ⟨hb3.os, hb3.tape, hb3.output, hb3.size, hb3.block⟩
          have hown4 := ((hown.alloc (.cells #[.int .i64 y, .int .i64 m, .int .i64 d] 54)).below hb3').below hb4
          have hblk4 := ((hblk.alloc (.cells #[.int .i64 y, .int .i64 m, .int .i64 d] 54)).below hb3' (by simp; omega)).below hb4 (by omega)
          have hd4 := ((Blk.new w2 54 #[.int .i64 y, .int .i64 m, .int .i64 d]).below hb3' (by simp)).below hb4 (by omega)
          have hB4 : Below w.heap.size w w4 := (below_step' hB hb3').trans (hb4.mono (by omega))
          have hz4 := hb4.size
          clear hb3 hb3' hb4 hc3 hf3 hc4 hf4 hown hblk hB cG0 cG1
          have cD0 := hd4.c0
          have cD1 := hd4.c1
          have cD2 := hd4.c2
        · go_wp2_with fail
          go_roundw
          case rel => exact ⟨k + 1, by omega, by rw [HY.out], by rw [HS.out]; exact hown4, hblk4, hB4⟩
          case measure => simp [intOf]; omega
        · go_wp2_with fail
          refine (s_num _ _ _ _ (by omega) (by omega) (by omega) (by omega) (by omega) (by omega)).mono ?_
          rintro e w6 ⟨rfl, hb6⟩
          have hz6 := hb6.size
          have hown6 := hown4.below hb6
          have hblk6 := hblk4.below hb6 (by omega)
          have hB6 := hB4.trans (hb6.mono (by omega))
          clear hb6
          go_wp2_with (at_builtin; refine wpList_appI rfl _ _ rfl _ _ _ _ _ rfl hown6 rfl (by omega) (by omega) ?_; intro v' w7 hown7 hg7)
          go_roundw
          case rel => exact ⟨k + 1, by omega, by rw [HY.out], by rw [HS.out]; exact hown7, hown6.blk hblk6 hg7 (by decide), hown6.below_grown hB6 hg7 (by omega)⟩
          case measure => simp [intOf]; omega
    · obtain rfl : k = n := by omega
      go_wp2_with fail
      go_ret
      exact ⟨_, rfl, hown, hB⟩
end Go.Proofs.Ytffpaedhdjnbjaa
