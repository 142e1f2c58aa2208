/- The reference's l01Date: the old date of a day. Condition: the number is a day. -/
import Derived.Test.YtmpgokijlikddaaGreatDoorNum
import Derived.Test.YtmpgokijlikddaaGreatDoorBlk
namespace Go.Proofs.YtmpgokijlikddaaGreatDoor
open Go.RowKit
theorem nyear_lt_iff (n y : Int) : nyear y ≤ n ↔ y ≤ yr n := by
  constructor
  · intro h
    by_cases h' : yr n < y
    · have := nyear_mono (yr n + 1) y (by omega); have := yr_lt n; omega
    · omega
  · intro h
    have := yr_le n
    have := nyear_mono y (yr n) h
    omega
theorem num_jan1 (y : Int) : num y 1 1 = nyear y := by unfold num; rw [cum_one]; omega
theorem num_1 (y m : Int) : num y m 1 = nyear y + cum y m := by unfold num; omega
set_option maxHeartbeats 2000000 in
theorem s_dateOf (n : Int) (w : World) (h0 : 0 ≤ n) (h1 : n ≤ 730499) : Calls Tryz.prog 197 #[.int .i64 n, .bool false] w fun e w' => e = .returned (.agg #[.int .i64 (yr n), .int .i64 (mo n), .int .i64 (dy n)]) ∧ Below w.heap.size w w' := by
  obtain ⟨hy0, hy1⟩ := yr_bd n h0 h1
  have hnb := nyear_bd (yr n) hy0 (by omega)
  obtain ⟨nb0, nb1⟩ := hnb
  have hle := yr_le n
  have hlt := yr_lt n
  go_enter Tryz.func197, Tryz.ntmps197
  go_wp2_with fail
  go_loopw [] (fun wr => ∃ y : Int, 1 ≤ y ∧ y ≤ yr n ∧ Blk wr w.heap.size 144 #[.int .i64 0, .int .i64 0, .int .i64 0] ∧ Blk wr (w.heap.size + 1) 144 #[.int .i64 y, .int .i64 1, .int .i64 1] ∧ Below w.heap.size w wr)
    (fun wr => (2000 - intOf ((wr.cell? ⟨w.heap.size + 1, 0, none⟩).getD undef)).toNat)
  case atStart =>
    refine ⟨n / 366 + 1, by omega, by unfold yr; omega, ?_, ?_, ?_⟩
    · exact (Blk.new _ _ _).alloc _
    · exact Blk.new' _ _ _ _ (by simp)
    · exact below_more (below_alloc _ _) (by simp) _
  case round =>
    obtain ⟨y, y0, y1, b0, b1, hB⟩ := hrel
    have c00 := b0.c0
    have c01 := b0.c1
    have c02 := b0.c2
    have f00 := b0.frozen 0
    have f01 := b0.frozen 1
    have f02 := b0.frozen 2
    have c10 := b1.c0
    have c11 := b1.c1
    have c12 := b1.c2
    have f10 := b1.frozen 0
    have f11 := b1.frozen 1
    have f12 := b1.frozen 2
    have hz := b1.lt
    by_cases hyl : y < yr n
    · have hny : num (y + 1) 1 1 ≤ n := by rw [num_jan1, nyear_lt_iff]; omega
      go_wp2_with fail
      refine (s_num _ _ _ _ (by omega) (by omega) (by omega) (by omega) (by omega) (by omega)).mono ?_
      rintro e w1 ⟨rfl, hb⟩
      obtain ⟨hc, hf⟩ := bcell hb
      go_wp2_with fail
      go_roundw
      case rel =>
        refine ⟨y + 1, by omega, by omega, ?_, ?_, ?_⟩
        · exact (b0.below hb b0.lt).far (by simp) _
        · exact (b1.below hb b1.lt).s0 _
        · exact below_set' (hB.trans (hb.mono (by omega))) (by omega) _ _
      case measure =>
        have h3 := ((b1.below hb b1.lt).s0 (.int .i64 (y + 1))).c0
        rw [h3, c10]; simp [intOf]; omega
    · obtain rfl : y = yr n := by omega
      by_cases hy2 : yr n < 2000
      · have hny : decide (num (yr n + 1) 1 1 ≤ n) = false := by rw [num_jan1]; simpa using hlt
        go_wp2_with fail
        refine (s_num _ _ _ _ (by omega) (by omega) (by omega) (by omega) (by omega) (by omega)).mono ?_
        rintro e w1 ⟨rfl, hb⟩
        obtain ⟨hc, hf⟩ := bcell hb
        go_wp2_with fail
        clear c00 c01 c02 c10 c11 c12 f00 f01 f02 f10 f11 f12 hc hf
        have B0 := b0.below hb b0.lt
        have B1 := b1.below hb b1.lt
        have HB : Below w.heap.size w _ := hB.trans (hb.mono (by omega))
        have c00 := B0.c0
        have c01 := B0.c1
        have c02 := B0.c2
        have f00 := B0.frozen 0
        have f01 := B0.frozen 1
        have f02 := B0.frozen 2
        have c10 := B1.c0
        have c11 := B1.c1
        have c12 := B1.c2
        have f10 := B1.frozen 0
        have f11 := B1.frozen 1
        have f12 := B1.frozen 2
        go_loopw [] (fun ws => ∃ m : Int, 1 ≤ m ∧ m ≤ mo n ∧ Blk ws w.heap.size 144 #[.int .i64 0, .int .i64 0, .int .i64 0] ∧ Blk ws (w.heap.size + 1) 144 #[.int .i64 (yr n), .int .i64 m, .int .i64 1] ∧ Below w.heap.size w ws)
          (fun ws => (12 - intOf ((ws.cell? ⟨w.heap.size + 1, 1, none⟩).getD undef)).toNat)
        case atStart => exact ⟨1, by omega, (mo_bd n).1, B0, B1, HB⟩
        case round =>
          obtain ⟨m, m0, m1, e0, e1, hE⟩ := hrel
          clear c00 c01 c02 c10 c11 c12 f00 f01 f02 f10 f11 f12 B0 B1 HB
          have c00 := e0.c0
          have c01 := e0.c1
          have c02 := e0.c2
          have f00 := e0.frozen 0
          have f01 := e0.frozen 1
          have f02 := e0.frozen 2
          have c10 := e1.c0
          have c11 := e1.c1
          have c12 := e1.c2
          have f10 := e1.frozen 0
          have f11 := e1.frozen 1
          have f12 := e1.frozen 2
          have hz := e1.lt
          have hmb := mo_bd n
          by_cases hml : m < mo n
          · have hnm : num (yr n) (m + 1) 1 ≤ n := by
              have a := cum_mono (yr n) (m + 1) (mo n) (by omega) (by omega) (by omega)
              have b := mon_le (yr n) (n - nyear (yr n)) (by omega)
              rw [num_1]; unfold mo at a; omega
            go_wp2_with fail
            refine (s_num _ _ _ _ (by omega) (by omega) (by omega) (by omega) (by omega) (by omega)).mono ?_
            rintro e w2 ⟨rfl, hb⟩
            obtain ⟨hc, hf⟩ := bcell hb
            go_wp2_with fail
            go_roundw
            case rel =>
              refine ⟨m + 1, by omega, by omega, ?_, ?_, ?_⟩
              · exact (e0.below hb e0.lt).far (by simp) _
              · exact (e1.below hb e1.lt).s1 _
              · exact below_set' (hE.trans (hb.mono (by omega))) (by omega) _ _
            case measure =>
              have h3 := ((e1.below hb e1.lt).s1 (.int .i64 (m + 1))).c1
              rw [h3, c11]; simp [intOf]; omega
          · obtain rfl : m = mo n := by omega
            have hcb := cum_bd (yr n) (mo n) hmb.1 (by omega)
            by_cases hm2 : mo n < 12
            · have hnm : decide (num (yr n) (mo n + 1) 1 ≤ n) = false := by
                have b := mon_lt (yr n) (n - nyear (yr n)) (by rw [nyear_succ] at hlt; omega)
                rw [num_1]; unfold mo; simp; omega
              go_wp2_with fail
              refine (s_num _ _ _ _ (by omega) (by omega) (by omega) (by omega) (by omega) (by omega)).mono ?_
              rintro e w2 ⟨rfl, hb⟩
              obtain ⟨hc, hf⟩ := bcell hb
              have E0 := e0.below hb e0.lt
              have E1 := e1.below hb e1.lt
              have HE : Below w.heap.size w _ := hE.trans (hb.mono (by omega))
              go_wp2_with fail
              clear hb hc hf c00 c01 c02 c10 c11 c12 f00 f01 f02 f10 f11 f12
              refine (s_num _ _ _ _ (by omega) (by omega) (by omega) (by omega) (by omega) (by omega)).mono ?_
              rintro e w3 ⟨rfl, hb3⟩
              rw [num_1]
              have D0 := E0.below hb3 E0.lt
              have D1 := E1.below hb3 E1.lt
              have HD : Below w.heap.size w _ := HE.trans (hb3.mono (by have := E1.lt; omega))
              clear hb3
              have c00 := D0.c0
              have c01 := D0.c1
              have c02 := D0.c2
              have f00 := D0.frozen 0
              have f01 := D0.frozen 1
              have f02 := D0.frozen 2
              have c10 := D1.c0
              have c11 := D1.c1
              have c12 := D1.c2
              have f10 := D1.frozen 0
              have f11 := D1.frozen 1
              have f12 := D1.frozen 2
              have hdy : n - (nyear (yr n) + cum (yr n) (mo n)) + 1 = dy n := by unfold dy; omega
              go_wp2_with fail
              have d := ((((D0.far (p := ⟨w.heap.size + 1, 2, none⟩) (by simp) (.int .i64 (dy n))).s0 (.int .i64 (yr n))).s1 (.int .i64 (mo n))).s2 (.int .i64 (dy n)))
              refine bodyPost_ret (v := .agg #[.int .i64 (yr n), .int .i64 (mo n), .int .i64 (dy n)]) (by simp [results, Tryz.results197, go_sem, d.c0, d.c1, d.c2]) rfl ⟨rfl, ?_⟩
              exact below_set' (below_set' (below_set' (below_set' HD (by omega) _ _) (by omega) _ _) (by omega) _ _) (by omega) _ _
            · have E0 := e0
              have E1 := e1
              have HE := hE
              go_wp2_with fail
              clear c00 c01 c02 c10 c11 c12 f00 f01 f02 f10 f11 f12
              refine (s_num _ _ _ _ (by omega) (by omega) (by omega) (by omega) (by omega) (by omega)).mono ?_
              rintro e w3 ⟨rfl, hb3⟩
              rw [num_1]
              have D0 := E0.below hb3 E0.lt
              have D1 := E1.below hb3 E1.lt
              have HD : Below w.heap.size w _ := HE.trans (hb3.mono (by have := E1.lt; omega))
              clear hb3
              have c00 := D0.c0
              have c01 := D0.c1
              have c02 := D0.c2
              have f00 := D0.frozen 0
              have f01 := D0.frozen 1
              have f02 := D0.frozen 2
              have c10 := D1.c0
              have c11 := D1.c1
              have c12 := D1.c2
              have f10 := D1.frozen 0
              have f11 := D1.frozen 1
              have f12 := D1.frozen 2
              have hdy : n - (nyear (yr n) + cum (yr n) (mo n)) + 1 = dy n := by unfold dy; omega
              go_wp2_with fail
              have d := ((((D0.far (p := ⟨w.heap.size + 1, 2, none⟩) (by simp) (.int .i64 (dy n))).s0 (.int .i64 (yr n))).s1 (.int .i64 (mo n))).s2 (.int .i64 (dy n)))
              refine bodyPost_ret (v := .agg #[.int .i64 (yr n), .int .i64 (mo n), .int .i64 (dy n)]) (by simp [results, Tryz.results197, go_sem, d.c0, d.c1, d.c2]) rfl ⟨rfl, ?_⟩
              exact below_set' (below_set' (below_set' (below_set' HD (by omega) _ _) (by omega) _ _) (by omega) _ _) (by omega) _ _
      · go_wp2_with fail
        have B0 := b0
        have B1 := b1
        have HB := hB
        go_loopw [] (fun ws => ∃ m : Int, 1 ≤ m ∧ m ≤ mo n ∧ Blk ws w.heap.size 144 #[.int .i64 0, .int .i64 0, .int .i64 0] ∧ Blk ws (w.heap.size + 1) 144 #[.int .i64 (yr n), .int .i64 m, .int .i64 1] ∧ Below w.heap.size w ws)
          (fun ws => (12 - intOf ((ws.cell? ⟨w.heap.size + 1, 1, none⟩).getD undef)).toNat)
        case atStart => exact ⟨1, by omega, (mo_bd n).1, B0, B1, HB⟩
        case round =>
          obtain ⟨m, m0, m1, e0, e1, hE⟩ := hrel
          clear c00 c01 c02 c10 c11 c12 f00 f01 f02 f10 f11 f12 B0 B1 HB
          have c00 := e0.c0
          have c01 := e0.c1
          have c02 := e0.c2
          have f00 := e0.frozen 0
          have f01 := e0.frozen 1
          have f02 := e0.frozen 2
          have c10 := e1.c0
          have c11 := e1.c1
          have c12 := e1.c2
          have f10 := e1.frozen 0
          have f11 := e1.frozen 1
          have f12 := e1.frozen 2
          have hz := e1.lt
          have hmb := mo_bd n
          by_cases hml : m < mo n
          · have hnm : num (yr n) (m + 1) 1 ≤ n := by
              have a := cum_mono (yr n) (m + 1) (mo n) (by omega) (by omega) (by omega)
              have b := mon_le (yr n) (n - nyear (yr n)) (by omega)
              rw [num_1]; unfold mo at a; omega
            go_wp2_with fail
            refine (s_num _ _ _ _ (by omega) (by omega) (by omega) (by omega) (by omega) (by omega)).mono ?_
            rintro e w2 ⟨rfl, hb⟩
            obtain ⟨hc, hf⟩ := bcell hb
            go_wp2_with fail
            go_roundw
            case rel =>
              refine ⟨m + 1, by omega, by omega, ?_, ?_, ?_⟩
              · exact (e0.below hb e0.lt).far (by simp) _
              · exact (e1.below hb e1.lt).s1 _
              · exact below_set' (hE.trans (hb.mono (by omega))) (by omega) _ _
            case measure =>
              have h3 := ((e1.below hb e1.lt).s1 (.int .i64 (m + 1))).c1
              rw [h3, c11]; simp [intOf]; omega
          · obtain rfl : m = mo n := by omega
            have hcb := cum_bd (yr n) (mo n) hmb.1 (by omega)
            by_cases hm2 : mo n < 12
            · have hnm : decide (num (yr n) (mo n + 1) 1 ≤ n) = false := by
                have b := mon_lt (yr n) (n - nyear (yr n)) (by rw [nyear_succ] at hlt; omega)
                rw [num_1]; unfold mo; simp; omega
              go_wp2_with fail
              refine (s_num _ _ _ _ (by omega) (by omega) (by omega) (by omega) (by omega) (by omega)).mono ?_
              rintro e w2 ⟨rfl, hb⟩
              obtain ⟨hc, hf⟩ := bcell hb
              have E0 := e0.below hb e0.lt
              have E1 := e1.below hb e1.lt
              have HE : Below w.heap.size w _ := hE.trans (hb.mono (by omega))
              go_wp2_with fail
              clear hb hc hf c00 c01 c02 c10 c11 c12 f00 f01 f02 f10 f11 f12
              refine (s_num _ _ _ _ (by omega) (by omega) (by omega) (by omega) (by omega) (by omega)).mono ?_
              rintro e w3 ⟨rfl, hb3⟩
              rw [num_1]
              have D0 := E0.below hb3 E0.lt
              have D1 := E1.below hb3 E1.lt
              have HD : Below w.heap.size w _ := HE.trans (hb3.mono (by have := E1.lt; omega))
              clear hb3
              have c00 := D0.c0
              have c01 := D0.c1
              have c02 := D0.c2
              have f00 := D0.frozen 0
              have f01 := D0.frozen 1
              have f02 := D0.frozen 2
              have c10 := D1.c0
              have c11 := D1.c1
              have c12 := D1.c2
              have f10 := D1.frozen 0
              have f11 := D1.frozen 1
              have f12 := D1.frozen 2
              have hdy : n - (nyear (yr n) + cum (yr n) (mo n)) + 1 = dy n := by unfold dy; omega
              go_wp2_with fail
              have d := ((((D0.far (p := ⟨w.heap.size + 1, 2, none⟩) (by simp) (.int .i64 (dy n))).s0 (.int .i64 (yr n))).s1 (.int .i64 (mo n))).s2 (.int .i64 (dy n)))
              refine bodyPost_ret (v := .agg #[.int .i64 (yr n), .int .i64 (mo n), .int .i64 (dy n)]) (by simp [results, Tryz.results197, go_sem, d.c0, d.c1, d.c2]) rfl ⟨rfl, ?_⟩
              exact below_set' (below_set' (below_set' (below_set' HD (by omega) _ _) (by omega) _ _) (by omega) _ _) (by omega) _ _
            · have E0 := e0
              have E1 := e1
              have HE := hE
              go_wp2_with fail
              clear c00 c01 c02 c10 c11 c12 f00 f01 f02 f10 f11 f12
              refine (s_num _ _ _ _ (by omega) (by omega) (by omega) (by omega) (by omega) (by omega)).mono ?_
              rintro e w3 ⟨rfl, hb3⟩
              rw [num_1]
              have D0 := E0.below hb3 E0.lt
              have D1 := E1.below hb3 E1.lt
              have HD : Below w.heap.size w _ := HE.trans (hb3.mono (by have := E1.lt; omega))
              clear hb3
              have c00 := D0.c0
              have c01 := D0.c1
              have c02 := D0.c2
              have f00 := D0.frozen 0
              have f01 := D0.frozen 1
              have f02 := D0.frozen 2
              have c10 := D1.c0
              have c11 := D1.c1
              have c12 := D1.c2
              have f10 := D1.frozen 0
              have f11 := D1.frozen 1
              have f12 := D1.frozen 2
              have hdy : n - (nyear (yr n) + cum (yr n) (mo n)) + 1 = dy n := by unfold dy; omega
              go_wp2_with fail
              have d := ((((D0.far (p := ⟨w.heap.size + 1, 2, none⟩) (by simp) (.int .i64 (dy n))).s0 (.int .i64 (yr n))).s1 (.int .i64 (mo n))).s2 (.int .i64 (dy n)))
              refine bodyPost_ret (v := .agg #[.int .i64 (yr n), .int .i64 (mo n), .int .i64 (dy n)]) (by simp [results, Tryz.results197, go_sem, d.c0, d.c1, d.c2]) rfl ⟨rfl, ?_⟩
              exact below_set' (below_set' (below_set' (below_set' HD (by omega) _ _) (by omega) _ _) (by omega) _ _) (by omega) _ _
end Go.Proofs.YtmpgokijlikddaaGreatDoor
