/- The begin of a year of a reign: the program's and the reference's functions return what the plain functions say. Conditions: the bounds that stand in the theorems. -/
import Derived.Test.YtmpgokijlikddaaGreatDoorReg
import Derived.Test.YtmpgokijlikddaaGreatDoorOld
import Derived.Test.YtmpgokijlikddaaGreatDoorDateOf
namespace Go.Proofs.YtmpgokijlikddaaGreatDoor
open Go.RowKit
theorem ret_int {a b : Int} (h : a = b) : Ending.returned (.int .i64 a) = .returned (.int .i64 b) := by rw [h]
theorem bg_1 {f k : Int} (h : mo f = 2) (h2 : dy f = 29) (h3 : leapB (yr f + k - 1) = false) : num (yr f + k - 1) 3 1 = bg f k := by unfold bg; rw [if_pos ⟨h, h2, h3⟩]
theorem bg_2 {f k : Int} (h : ¬ (mo f = 2 ∧ dy f = 29 ∧ leapB (yr f + k - 1) = false)) : num (yr f + k - 1) (mo f) (dy f) = bg f k := by unfold bg; rw [if_neg h]
set_option maxRecDepth 100000 in
theorem s_begin (s : ByteArray) (f t k : Int) (w : World) (h0 : 0 ≤ f) (h1 : f ≤ 730499) (k0 : 1 ≤ k) (k1 : k ≤ 3000) : Calls Tryz.prog 147 #[.agg #[.string s, .int .i64 f, .int .i64 t], .int .i64 k] w fun e w' => e = .returned (.int .i64 (bg f k)) ∧ Below w.heap.size w w' := by
  obtain ⟨y0, y1⟩ := yr_bd f h0 h1
  obtain ⟨m0, m1⟩ := mo_bd f
  obtain ⟨d0, d1⟩ := dy_bd f
  have d2 := (mlen_bd (yr f) (mo f)).2
  have e1 := bg_1 (f := f) (k := k)
  have e2 := bg_2 (f := f) (k := k)
  have E1 := Lib.hid e1
  have E2 := Lib.hid e2
  clear e1 e2
  go_enter Tryz.func147, Tryz.ntmps147
  go_wp2_with fail
  refine (s_l01Old _ _ h0 h1).mono ?_
  rintro e w1 ⟨rfl, hb⟩
  have hz : w.heap.size < w1.heap.size := by have := hb.size; simp at this; omega
  have L1 := below_more (below_step (below_alloc _ _) hb) (Nat.le_of_lt hz)
  by_cases hm : mo f = 2
  · by_cases hd : dy f = 29
    · obtain ⟨b, hlb⟩ : ∃ b, leapB (yr f + k - 1) = b := ⟨_, rfl⟩
      cases b
      · go_wp2_with fail
        refine (toB (s_leap _ _ (by omega) (by omega)) hlb).mono ?_
        rintro e w2 ⟨rfl, rfl⟩
        go_wp2_with fail
        refine (s_num _ _ _ _ (by omega) (by omega) (by omega) (by omega) (by omega) (by omega)).mono ?_
        rintro e w3 ⟨rfl, hb3⟩
        go_wp2_with fail
        go_ret
        exact ⟨ret_int (E1.out hm hd hlb), (L1 _).trans (hb3.mono (by simp; omega))⟩
      · go_wp2_with fail
        refine (toB (s_leap _ _ (by omega) (by omega)) hlb).mono ?_
        rintro e w2 ⟨rfl, rfl⟩
        go_wp2_with fail
        refine (s_num _ _ _ _ (by omega) (by omega) (by omega) (by omega) (by omega) (by omega)).mono ?_
        rintro e w3 ⟨rfl, hb3⟩
        go_wp2_with fail
        go_ret
        exact ⟨ret_int (by have h := E2.out (by rintro ⟨_, _, h⟩; rw [hlb] at h; cases h); rw [← h, hm, hd]), (L1 _).trans (hb3.mono (by simp; omega))⟩
    · go_wp2_with fail
      refine (s_num _ _ _ _ (by omega) (by omega) (by omega) (by omega) (by omega) (by omega)).mono ?_
      rintro e w3 ⟨rfl, hb3⟩
      go_wp2_with fail
      go_ret
      exact ⟨ret_int (by have h := E2.out (by rintro ⟨_, h, _⟩; exact hd h); rw [← h, hm]), (L1 _).trans (hb3.mono (by simp; omega))⟩
  · go_wp2_with fail
    refine (s_num _ _ _ _ (by omega) (by omega) (by omega) (by omega) (by omega) (by omega)).mono ?_
    rintro e w3 ⟨rfl, hb3⟩
    go_wp2_with fail
    go_ret
    exact ⟨ret_int (E2.out (by rintro ⟨h, _, _⟩; exact hm h)), (L1 _).trans (hb3.mono (by simp; omega))⟩
theorem valid_bg {f k : Int} (y0 : 1 ≤ yr f + k - 1) (y1 : yr f + k - 1 ≤ 2000) : (validB (yr f + k - 1) (mo f) (dy f) = false ↔ (mo f = 2 ∧ dy f = 29 ∧ leapB (yr f + k - 1) = false)) := by
  have m := mo_bd f
  have d := dy_bd f
  constructor
  · intro h
    rw [validB_not] at h
    by_cases h29 : mo f = 2 ∧ dy f = 29
    · refine ⟨h29.1, h29.2, ?_⟩
      cases e : leapB (yr f + k - 1)
      · rfl
      · exfalso; apply h
        have := leap_lp e
        refine ⟨y0, y1, m.1, m.2, d.1, ?_⟩
        rw [h29.1, h29.2]; unfold mlen; rw [if_pos rfl]; omega
    · exact absurd ⟨y0, y1, m.1, m.2, d.1, (dy_le28 f h29 _).2⟩ h
  · rintro ⟨h1, h2, h3⟩
    rw [validB_not]
    rintro ⟨_, _, _, _, _, h⟩
    rw [h1, h2] at h; unfold mlen at h; rw [if_pos rfl] at h
    have : lp (yr f + k - 1) = 0 := by unfold leapB at h3; unfold lp; rw [if_neg (by simpa using h3)]
    omega
set_option maxRecDepth 100000 in
set_option maxHeartbeats 600000 in
theorem i_begin (s : ByteArray) (f t k : Int) (w : World) (h0 : 0 ≤ f) (h1 : f ≤ 730499) (k0 : 1 ≤ k) (k1 : k ≤ 9223372036854775807) : Calls Tryz.prog 142 #[.agg #[.string s, .int .i64 f, .int .i64 t], .int .i64 k] w fun e w' => e = .returned (.int .i64 (bgI f k)) ∧ Below w.heap.size w w' := by
  obtain ⟨y0, y1⟩ := yr_bd f h0 h1
  obtain ⟨m0, m1⟩ := mo_bd f
  obtain ⟨d0, d1⟩ := dy_bd f
  have d2 := (mlen_bd (yr f) (mo f)).2
  go_enter Tryz.func142, Tryz.ntmps142
  go_wp2_with fail
  refine (i_dateOf _ _ h0 h1).mono ?_
  rintro e w1 ⟨rfl, hb⟩
  have hz : w.heap.size < w1.heap.size := by have := hb.size; simp at this; omega
  have L1 := below_more (below_step (below_alloc _ _) hb) (Nat.le_of_lt hz)
  by_cases hk : 2000 < k
  · have HF := Lib.hid (bgI_late f k (.inl hk))
    go_wp2_with fail
    go_ret
    exact ⟨ret_int HF.out.symm, L1 _⟩
  · by_cases hy : 2000 < yr f + k - 1
    · have HF := Lib.hid (bgI_late f k (.inr hy))
      have hv : inB (yr f + (k - 1)) 1 2000 = false := by rw [inB_not]; omega
      have hk' : k ≤ 2000 := by omega
      clear hk
      go_wp2_with fail
      refine (toB (i_year _ _) hv).mono ?_
      rintro e w2 ⟨rfl, rfl⟩
      go_wp2_with fail
      go_ret
      exact ⟨ret_int HF.out.symm, L1 _⟩
    · have hF := bgI_in f k (by omega)
      have hv : inB (yr f + (k - 1)) 1 2000 = true := inB_mk (by omega) (by omega)
      have hk' : k ≤ 2000 := by omega
      have hy' : yr f + k - 1 ≤ 2000 := by omega
      have hvb := valid_bg (f := f) (k := k) (by omega) hy'
      have ea : yr f + k - 1 = yr f + (k - 1) := by omega
      have e1 := bg_1 (f := f) (k := k)
      have e2 := bg_2 (f := f) (k := k)
      rw [ea] at hvb e1 e2
      clear ea
      clear hk hy
      obtain ⟨b, hlb⟩ : ∃ b, validB (yr f + (k - 1)) (mo f) (dy f) = b := ⟨_, rfl⟩
      cases b
      · obtain ⟨g1, g2, g3⟩ := hvb.1 hlb
        have HF := Lib.hid (hF.trans (e1 g1 g2 g3).symm)
        clear hF e1 e2 hvb g1 g2 g3
        go_wp2_with fail
        refine (toB (i_year _ _) hv).mono ?_
        rintro e w2 ⟨rfl, rfl⟩
        go_wp2_with fail
        refine (toBelowB (i_old _ _ _ _) hlb).mono ?_
        rintro e w3 ⟨rfl, hb3⟩
        obtain ⟨hc3, hf3⟩ := bcell hb3
        have hz3 : w1.heap.size < w3.heap.size := by have := hb3.size; simp at this; omega
        have B0 := (Blk.new w1 144 #[.int .i64 (yr f + (k - 1)), .int .i64 (mo f), .int .i64 (dy f)]).below hb3 (by simp)
        have L3 := (L1 (.cells #[.int .i64 (yr f + (k - 1)), .int .i64 (mo f), .int .i64 (dy f)] 144)).trans (hb3.mono (by simp; omega))
        have c0 := B0.c0
        have c1 := B0.c1
        have c2 := B0.c2
        have f1 := B0.frozen 1
        have f2 := B0.frozen 2
        clear hc3 hf3
        go_wp2_with fail
        refine (i_num _ _ _ _ (by omega) (by omega) (by omega) (by omega) (by omega) (by omega)).mono ?_
        rintro e w4 ⟨rfl, hb4⟩
        go_wp2_with fail
        go_ret
        exact ⟨ret_int HF.out.symm, (below_set' (below_set' L3 (Nat.le_of_lt hz) _ _) (Nat.le_of_lt hz) _ _).trans (hb4.mono (by simp; omega))⟩
      · have g := e2 (fun h => by rw [hvb.2 h] at hlb; cases hlb)
        have HF := Lib.hid (hF.trans g.symm)
        clear hF e1 e2 hvb g
        go_wp2_with fail
        refine (toB (i_year _ _) hv).mono ?_
        rintro e w2 ⟨rfl, rfl⟩
        go_wp2_with fail
        refine (toBelowB (i_old _ _ _ _) hlb).mono ?_
        rintro e w3 ⟨rfl, hb3⟩
        have hz3 : w1.heap.size < w3.heap.size := by have := hb3.size; simp at this; omega
        have B0 := (Blk.new w1 144 #[.int .i64 (yr f + (k - 1)), .int .i64 (mo f), .int .i64 (dy f)]).below hb3 (by simp)
        have L3 := (L1 (.cells #[.int .i64 (yr f + (k - 1)), .int .i64 (mo f), .int .i64 (dy f)] 144)).trans (hb3.mono (by simp; omega))
        have c0 := B0.c0
        have c1 := B0.c1
        have c2 := B0.c2
        go_wp2_with fail
        refine (i_num _ _ _ _ (by omega) (by omega) (by omega) (by omega) (by omega) (by omega)).mono ?_
        rintro e w4 ⟨rfl, hb4⟩
        go_wp2_with fail
        go_ret
        exact ⟨ret_int HF.out.symm, L3.trans (hb4.mono (by omega))⟩
end Go.Proofs.YtmpgokijlikddaaGreatDoor
