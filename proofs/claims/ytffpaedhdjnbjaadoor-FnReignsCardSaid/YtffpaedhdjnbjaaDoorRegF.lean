/- RegnalYear, RegnalSpan, CountYears: the program's and the reference's functions return what the plain functions say. Condition: a length that a machine can hold. -/
import Derived.Test.YtffpaedhdjnbjaaDoorRegY
namespace Go.Proofs.YtffpaedhdjnbjaaDoor
open Go.RowKit
def ryF (x : List UInt8) (f t n : Int) : Int × Int := if regB x f t then (if inB n 0 730499 then (if inB n f t then (ky f n, 0) else (0, 4)) else (0, 2)) else (0, 1)
def rsF (x : List UInt8) (f t k : Int) : (Int × Int) × Int := if regB x f t then (if k < 1 then ((0, 0), 2) else if (rsp f t k).2 then ((rsp f t k).1, 0) else ((0, 0), 4)) else ((0, 0), 1)
def cyF (x : List UInt8) (f t : Int) : Int × Int := if regB x f t then (ky f t, 0) else (0, 1)
theorem ret_ii {a b c d : Int} (p : Int × Int) (h : p = (c, d)) (h1 : a = c) (h2 : b = d) : Ending.returned (.tuple #[.int .i64 a, .int .i64 b]) = .returned (.tuple #[.int .i64 p.1, .int .i64 p.2]) := by rw [h, h1, h2]
theorem reg_open {x : List UInt8} {f t : Int} (h : regB x f t = true) : 0 ≤ f ∧ f ≤ t ∧ t ≤ 730499 := by
  obtain ⟨_, h2, h3, h4⟩ := regB_iff.1 h
  exact ⟨(inB_iff.1 h2).1, h4, (inB_iff.1 h3).2⟩
theorem i_covers (s : ByteArray) (f t n : Int) (w : World) : Calls Tryd.prog 85 #[.agg #[.string s, .int .i64 f, .int .i64 t], .int .i64 n] w fun e w' => e = .returned (.bool (inB n f t)) ∧ Below w.heap.size w w' := by
  go_enter Tryd.func85, Tryd.ntmps85
  go_wp2_with fail
  refine (i_in _ _ _ _).mono ?_
  rintro e w1 ⟨rfl, rfl⟩
  go_wp2_with fail
  go_ret
  exact ⟨rfl, below_alloc _ _⟩
set_option maxHeartbeats 800000 in
theorem s_RegnalYear (s : ByteArray) (f t n : Int) (w : World) (hs : s.size ≤ 9223372036854775807) : Calls Tryd.prog 44 #[.agg #[.string s, .int .i64 f, .int .i64 t], .int .i64 n] w fun e w' => e = .returned (.tuple #[.int .i64 (ryF s.data.toList f t n).1, .int .i64 (ryF s.data.toList f t n).2]) ∧ Below w.heap.size w w' := by
  by_cases hr : regB s.data.toList f t = true
  · obtain ⟨r0, r1, r2⟩ := reg_open hr
    by_cases hn : inB n 0 730499 = true
    · by_cases hc : inB n f t = true
      · have hF : ryF s.data.toList f t n = (ky f n, 0) := by unfold ryF; rw [hr, hn, hc]; rfl
        obtain ⟨k0, k1⟩ := inB_iff.1 hc
        have HF := Lib.hid hF; clear hF
        go_enter Tryd.func44, Tryd.ntmps44
        go_wp2_with fail
        refine (toBelowB (s_reg _ _ _ _ hs) hr).mono ?_
        rintro e w1 ⟨rfl, hb1⟩
        have B1 := (Blk.new w 54 #[.string s, .int .i64 f, .int .i64 t]).below hb1 (by simp)
        have L1 := below_step (below_alloc _ _) hb1
        have c0 := B1.c0
        have c1 := B1.c1
        have c2 := B1.c2
        have hz1 := B1.lt
        go_wp2_with fail
        refine (toB (s_day _ _) hn).mono ?_
        rintro e w2 ⟨rfl, rfl⟩
        go_wp2_with fail
        refine (toB (s_in _ _ _ _) hc).mono ?_
        rintro e w3 ⟨rfl, rfl⟩
        go_wp2_with fail
        refine (s_year7 _ _ _ _ _ r0 (by omega) (by omega)).mono ?_
        rintro e w4 ⟨rfl, hb4⟩
        go_wp2_with fail
        go_ret2
        exact ⟨ret_ii _ HF.out rfl rfl, L1.trans (hb4.mono (Nat.le_of_lt hz1))⟩
      · have hc : inB n f t = false := by simpa using hc
        have hF : ryF s.data.toList f t n = (0, 4) := by unfold ryF; rw [hr, hn, hc]; rfl
        have HF := Lib.hid hF; clear hF
        go_enter Tryd.func44, Tryd.ntmps44
        go_wp2_with fail
        refine (toBelowB (s_reg _ _ _ _ hs) hr).mono ?_
        rintro e w1 ⟨rfl, hb1⟩
        have B1 := (Blk.new w 54 #[.string s, .int .i64 f, .int .i64 t]).below hb1 (by simp)
        have L1 := below_step (below_alloc _ _) hb1
        have c0 := B1.c0
        have c1 := B1.c1
        have c2 := B1.c2
        have hz1 := B1.lt
        go_wp2_with fail
        refine (toB (s_day _ _) hn).mono ?_
        rintro e w2 ⟨rfl, rfl⟩
        go_wp2_with fail
        refine (toB (s_in _ _ _ _) hc).mono ?_
        rintro e w3 ⟨rfl, rfl⟩
        go_wp2_with fail
        go_ret2
        exact ⟨ret_ii _ HF.out rfl rfl, L1⟩
    · have hn : inB n 0 730499 = false := by simpa using hn
      have hF : ryF s.data.toList f t n = (0, 2) := by unfold ryF; rw [hr, hn]; rfl
      have HF := Lib.hid hF; clear hF
      go_enter Tryd.func44, Tryd.ntmps44
      go_wp2_with fail
      refine (toBelowB (s_reg _ _ _ _ hs) hr).mono ?_
      rintro e w1 ⟨rfl, hb1⟩
      have B1 := (Blk.new w 54 #[.string s, .int .i64 f, .int .i64 t]).below hb1 (by simp)
      have L1 := below_step (below_alloc _ _) hb1
      have c0 := B1.c0
      have c1 := B1.c1
      have c2 := B1.c2
      have hz1 := B1.lt
      go_wp2_with fail
      refine (toB (s_day _ _) hn).mono ?_
      rintro e w2 ⟨rfl, rfl⟩
      go_wp2_with fail
      go_ret2
      exact ⟨ret_ii _ HF.out rfl rfl, L1⟩
  · have hr : regB s.data.toList f t = false := by simpa using hr
    have hF : ryF s.data.toList f t n = (0, 1) := by unfold ryF; rw [hr]; rfl
    have HF := Lib.hid hF; clear hF
    go_enter Tryd.func44, Tryd.ntmps44
    go_wp2_with fail
    refine (toBelowB (s_reg _ _ _ _ hs) hr).mono ?_
    rintro e w1 ⟨rfl, hb1⟩
    have B1 := (Blk.new w 54 #[.string s, .int .i64 f, .int .i64 t]).below hb1 (by simp)
    have L1 := below_step (below_alloc _ _) hb1
    have c0 := B1.c0
    have c1 := B1.c1
    have c2 := B1.c2
    have hz1 := B1.lt
    go_wp2_with fail
    go_ret2
    exact ⟨ret_ii _ HF.out rfl rfl, L1⟩
set_option maxHeartbeats 800000 in
theorem s_CountYears (s : ByteArray) (f t : Int) (w : World) (hs : s.size ≤ 9223372036854775807) : Calls Tryd.prog 35 #[.agg #[.string s, .int .i64 f, .int .i64 t]] w fun e w' => e = .returned (.tuple #[.int .i64 (cyF s.data.toList f t).1, .int .i64 (cyF s.data.toList f t).2]) ∧ Below w.heap.size w w' := by
  by_cases hr : regB s.data.toList f t = true
  · obtain ⟨r0, r1, r2⟩ := reg_open hr
    have hF : cyF s.data.toList f t = (ky f t, 0) := by unfold cyF; rw [hr]; rfl
    have HF := Lib.hid hF; clear hF
    go_enter Tryd.func35, Tryd.ntmps35
    go_wp2_with fail
    refine (toBelowB (s_reg _ _ _ _ hs) hr).mono ?_
    rintro e w1 ⟨rfl, hb1⟩
    have B1 := (Blk.new w 54 #[.string s, .int .i64 f, .int .i64 t]).below hb1 (by simp)
    have L1 := below_step (below_alloc _ _) hb1
    have c0 := B1.c0
    have c1 := B1.c1
    have c2 := B1.c2
    have hz1 := B1.lt
    go_wp2_with fail
    refine (s_year7 _ _ _ _ _ r0 (by omega) (by omega)).mono ?_
    rintro e w4 ⟨rfl, hb4⟩
    go_wp2_with fail
    go_ret2
    exact ⟨ret_ii _ HF.out rfl rfl, L1.trans (hb4.mono (Nat.le_of_lt hz1))⟩
  · have hr : regB s.data.toList f t = false := by simpa using hr
    have hF : cyF s.data.toList f t = (0, 1) := by unfold cyF; rw [hr]; rfl
    have HF := Lib.hid hF; clear hF
    go_enter Tryd.func35, Tryd.ntmps35
    go_wp2_with fail
    refine (toBelowB (s_reg _ _ _ _ hs) hr).mono ?_
    rintro e w1 ⟨rfl, hb1⟩
    have B1 := (Blk.new w 54 #[.string s, .int .i64 f, .int .i64 t]).below hb1 (by simp)
    have L1 := below_step (below_alloc _ _) hb1
    have c0 := B1.c0
    have c1 := B1.c1
    have c2 := B1.c2
    have hz1 := B1.lt
    go_wp2_with fail
    go_ret2
    exact ⟨ret_ii _ HF.out rfl rfl, L1⟩
set_option maxHeartbeats 800000 in
theorem s_RegnalSpan (s : ByteArray) (f t k : Int) (w : World) (hs : s.size ≤ 9223372036854775807) : Calls Tryd.prog 46 #[.agg #[.string s, .int .i64 f, .int .i64 t], .int .i64 k] w fun e w' => e = .returned (.tuple #[.agg #[.int .i64 (rsF s.data.toList f t k).1.1, .int .i64 (rsF s.data.toList f t k).1.2], .int .i64 (rsF s.data.toList f t k).2]) ∧ Below w.heap.size w w' := by
  by_cases hr : regB s.data.toList f t = true
  · obtain ⟨r0, r1, r2⟩ := reg_open hr
    by_cases hk : k < 1
    · have hF : rsF s.data.toList f t k = ((0, 0), 2) := by unfold rsF; rw [hr, if_pos rfl, if_pos hk]
      rw [hF]; clear hF
      go_enter Tryd.func46, Tryd.ntmps46
      go_wp2_with fail
      refine (toBelowB (s_reg _ _ _ _ hs) hr).mono ?_
      rintro e w1 ⟨rfl, hb1⟩
      have B1 := ((Blk.new w 54 #[.string s, .int .i64 f, .int .i64 t]).alloc (.cells #[.int .i64 0, .int .i64 0] 40)).below hb1 (by simp; omega)
      have L1 := (below_more (below_alloc w (.cells #[.string s, .int .i64 f, .int .i64 t] 54)) (by simp) (.cells #[.int .i64 0, .int .i64 0] 40)).trans (hb1.mono (by simp; omega))
      have c0 := B1.c0
      have c1 := B1.c1
      have c2 := B1.c2
      have hz1 := B1.lt
      have R1 := (Blk.new' (w.alloc (.cells #[.string s, .int .i64 f, .int .i64 t] 54)) 40 #[.int .i64 0, .int .i64 0] (w.heap.size + 1) (by simp)).below hb1 (by simp)
      have g0 := R1.c0
      have g1 := R1.c1
      have v0 := R1.frozen 0
      have v1 := R1.frozen 1
      have hy1 := R1.lt
      go_wp2_with fail
      refine bodyPost_ret (v := .tuple #[.agg #[.int .i64 0, .int .i64 0], .int .i64 2]) (by simp [results, Tryd.results46, go_sem, g0, g1]) rfl ⟨rfl, ?_⟩
      exact below_set' (below_set' L1 (by omega) _ _) (by omega) _ _
    · have hk' : 1 ≤ k := by omega
      have con := fun W => s_span7 s f t k W r0 r1 r2 hk'
      obtain ⟨p, hp⟩ : ∃ p, rsp f t k = p := ⟨_, rfl⟩
      obtain ⟨⟨a, b⟩, ok⟩ := p
      rw [hp] at con
      have CON := Lib.hid con; clear con
      cases ok
      · have hF : rsF s.data.toList f t k = ((0, 0), 4) := by unfold rsF; rw [hr, if_pos rfl, if_neg hk, hp]; rfl
        rw [hF]; clear hF hk hp
        go_enter Tryd.func46, Tryd.ntmps46
        go_wp2_with fail
        refine (toBelowB (s_reg _ _ _ _ hs) hr).mono ?_
        rintro e w1 ⟨rfl, hb1⟩
        have B1 := ((Blk.new w 54 #[.string s, .int .i64 f, .int .i64 t]).alloc (.cells #[.int .i64 0, .int .i64 0] 40)).below hb1 (by simp; omega)
        have L1 := (below_more (below_alloc w (.cells #[.string s, .int .i64 f, .int .i64 t] 54)) (by simp) (.cells #[.int .i64 0, .int .i64 0] 40)).trans (hb1.mono (by simp; omega))
        have c0 := B1.c0
        have c1 := B1.c1
        have c2 := B1.c2
        have hz1 := B1.lt
        have R1 := (Blk.new' (w.alloc (.cells #[.string s, .int .i64 f, .int .i64 t] 54)) 40 #[.int .i64 0, .int .i64 0] (w.heap.size + 1) (by simp)).below hb1 (by simp)
        have g0 := R1.c0
        have g1 := R1.c1
        have v0 := R1.frozen 0
        have v1 := R1.frozen 1
        have hy1 := R1.lt
        go_wp2_with fail
        refine (CON.out _).mono ?_
        rintro e w4 ⟨rfl, hb4⟩
        have R4 := R1.below hb4 R1.lt
        have L4 := L1.trans (hb4.mono (Nat.le_of_lt hz1))
        have e0 := R4.c0
        have e1 := R4.c1
        have u0 := R4.frozen 0
        have u1 := R4.frozen 1
        have hz4 := R4.lt
        have hz5 : w.heap.size < w4.heap.size := by omega
        clear g0 g1 v0 v1 hy1
        go_wp2_with fail
        refine bodyPost_ret (v := .tuple #[.agg #[.int .i64 0, .int .i64 0], .int .i64 4]) (by simp [results, Tryd.results46, go_sem, e0, e1, hz4]) rfl ⟨rfl, ?_⟩
        exact below_more (below_set' (below_set' L4 (by omega) _ _) (by omega) _ _) (by simp; omega) _
      · have hF : rsF s.data.toList f t k = ((a, b), 0) := by unfold rsF; rw [hr, if_pos rfl, if_neg hk, hp]; rfl
        rw [hF]; clear hF hk hp
        go_enter Tryd.func46, Tryd.ntmps46
        go_wp2_with fail
        refine (toBelowB (s_reg _ _ _ _ hs) hr).mono ?_
        rintro e w1 ⟨rfl, hb1⟩
        have B1 := ((Blk.new w 54 #[.string s, .int .i64 f, .int .i64 t]).alloc (.cells #[.int .i64 0, .int .i64 0] 40)).below hb1 (by simp; omega)
        have L1 := (below_more (below_alloc w (.cells #[.string s, .int .i64 f, .int .i64 t] 54)) (by simp) (.cells #[.int .i64 0, .int .i64 0] 40)).trans (hb1.mono (by simp; omega))
        have c0 := B1.c0
        have c1 := B1.c1
        have c2 := B1.c2
        have hz1 := B1.lt
        have R1 := (Blk.new' (w.alloc (.cells #[.string s, .int .i64 f, .int .i64 t] 54)) 40 #[.int .i64 0, .int .i64 0] (w.heap.size + 1) (by simp)).below hb1 (by simp)
        have g0 := R1.c0
        have g1 := R1.c1
        have v0 := R1.frozen 0
        have v1 := R1.frozen 1
        have hy1 := R1.lt
        go_wp2_with fail
        refine (CON.out _).mono ?_
        rintro e w4 ⟨rfl, hb4⟩
        have R4 := R1.below hb4 R1.lt
        have L4 := L1.trans (hb4.mono (Nat.le_of_lt hz1))
        have e0 := R4.c0
        have e1 := R4.c1
        have u0 := R4.frozen 0
        have u1 := R4.frozen 1
        have hz4 := R4.lt
        have hz5 : w.heap.size < w4.heap.size := by omega
        clear g0 g1 v0 v1 hy1
        go_wp2_with fail
        refine bodyPost_ret (v := .tuple #[.agg #[.int .i64 a, .int .i64 b], .int .i64 0]) (by simp [results, Tryd.results46, go_sem, e0, e1, hz4]) rfl ⟨rfl, ?_⟩
        exact below_more (below_set' (below_set' L4 (by omega) _ _) (by omega) _ _) (by simp; omega) _
  · have hr : regB s.data.toList f t = false := by simpa using hr
    have hF : rsF s.data.toList f t k = ((0, 0), 1) := by unfold rsF; rw [hr]; rfl
    rw [hF]; clear hF
    go_enter Tryd.func46, Tryd.ntmps46
    go_wp2_with fail
    refine (toBelowB (s_reg _ _ _ _ hs) hr).mono ?_
    rintro e w1 ⟨rfl, hb1⟩
    have B1 := ((Blk.new w 54 #[.string s, .int .i64 f, .int .i64 t]).alloc (.cells #[.int .i64 0, .int .i64 0] 40)).below hb1 (by simp; omega)
    have L1 := (below_more (below_alloc w (.cells #[.string s, .int .i64 f, .int .i64 t] 54)) (by simp) (.cells #[.int .i64 0, .int .i64 0] 40)).trans (hb1.mono (by simp; omega))
    have c0 := B1.c0
    have c1 := B1.c1
    have c2 := B1.c2
    have hz1 := B1.lt
    have R1 := (Blk.new' (w.alloc (.cells #[.string s, .int .i64 f, .int .i64 t] 54)) 40 #[.int .i64 0, .int .i64 0] (w.heap.size + 1) (by simp)).below hb1 (by simp)
    have g0 := R1.c0
    have g1 := R1.c1
    have v0 := R1.frozen 0
    have v1 := R1.frozen 1
    have hy1 := R1.lt
    go_wp2_with fail
    refine bodyPost_ret (v := .tuple #[.agg #[.int .i64 0, .int .i64 0], .int .i64 1]) (by simp [results, Tryd.results46, go_sem, g0, g1]) rfl ⟨rfl, ?_⟩
    exact below_set' (below_set' L1 (by omega) _ _) (by omega) _ _
set_option maxHeartbeats 800000 in
theorem i_RegnalYear (s : ByteArray) (f t n : Int) (w : World) (hs : s.size ≤ 9223372036854775807) : Calls Tryd.prog 45 #[.agg #[.string s, .int .i64 f, .int .i64 t], .int .i64 n] w fun e w' => e = .returned (.tuple #[.int .i64 (ryF s.data.toList f t n).1, .int .i64 (ryF s.data.toList f t n).2]) ∧ Below w.heap.size w w' := by
  by_cases hr : regB s.data.toList f t = true
  · obtain ⟨r0, r1, r2⟩ := reg_open hr
    by_cases hn : inB n 0 730499 = true
    · by_cases hc : inB n f t = true
      · have hF : ryF s.data.toList f t n = (ky f n, 0) := by unfold ryF; rw [hr, hn, hc]; rfl
        obtain ⟨k0, k1⟩ := inB_iff.1 hc
        have HF := Lib.hid hF; clear hF
        go_enter Tryd.func45, Tryd.ntmps45
        go_wp2_with fail
        refine (toBelowB (i_reg _ _ _ _ hs) hr).mono ?_
        rintro e w1 ⟨rfl, hb1⟩
        have B1 := (Blk.new w 54 #[.string s, .int .i64 f, .int .i64 t]).below hb1 (by simp)
        have L1 := below_step (below_alloc _ _) hb1
        have c0 := B1.c0
        have c1 := B1.c1
        have c2 := B1.c2
        have hz1 := B1.lt
        go_wp2_with fail
        refine (toB (i_day _ _) hn).mono ?_
        rintro e w2 ⟨rfl, rfl⟩
        go_wp2_with fail
        refine (toBelowB (i_covers _ _ _ _ _) hc).mono ?_
        rintro e w3 ⟨rfl, hb3⟩
        have B3 := B1.below hb3 B1.lt
        have L3 := L1.trans (hb3.mono (Nat.le_of_lt hz1))
        have c0 := B3.c0
        have c1 := B3.c1
        have c2 := B3.c2
        have hz3 := B3.lt
        go_wp2_with fail
        refine (i_year7 _ _ _ _ _ r0 (by omega) (by omega)).mono ?_
        rintro e w4 ⟨rfl, hb4⟩
        go_wp2_with fail
        go_ret2
        exact ⟨ret_ii _ HF.out rfl rfl, L3.trans (hb4.mono (Nat.le_of_lt hz3))⟩
      · have hc : inB n f t = false := by simpa using hc
        have hF : ryF s.data.toList f t n = (0, 4) := by unfold ryF; rw [hr, hn, hc]; rfl
        have HF := Lib.hid hF; clear hF
        go_enter Tryd.func45, Tryd.ntmps45
        go_wp2_with fail
        refine (toBelowB (i_reg _ _ _ _ hs) hr).mono ?_
        rintro e w1 ⟨rfl, hb1⟩
        have B1 := (Blk.new w 54 #[.string s, .int .i64 f, .int .i64 t]).below hb1 (by simp)
        have L1 := below_step (below_alloc _ _) hb1
        have c0 := B1.c0
        have c1 := B1.c1
        have c2 := B1.c2
        have hz1 := B1.lt
        go_wp2_with fail
        refine (toB (i_day _ _) hn).mono ?_
        rintro e w2 ⟨rfl, rfl⟩
        go_wp2_with fail
        refine (toBelowB (i_covers _ _ _ _ _) hc).mono ?_
        rintro e w3 ⟨rfl, hb3⟩
        have B3 := B1.below hb3 B1.lt
        have L3 := L1.trans (hb3.mono (Nat.le_of_lt hz1))
        have c0 := B3.c0
        have c1 := B3.c1
        have c2 := B3.c2
        have hz3 := B3.lt
        go_wp2_with fail
        go_ret2
        exact ⟨ret_ii _ HF.out rfl rfl, L3⟩
    · have hn : inB n 0 730499 = false := by simpa using hn
      have hF : ryF s.data.toList f t n = (0, 2) := by unfold ryF; rw [hr, hn]; rfl
      have HF := Lib.hid hF; clear hF
      go_enter Tryd.func45, Tryd.ntmps45
      go_wp2_with fail
      refine (toBelowB (i_reg _ _ _ _ hs) hr).mono ?_
      rintro e w1 ⟨rfl, hb1⟩
      have B1 := (Blk.new w 54 #[.string s, .int .i64 f, .int .i64 t]).below hb1 (by simp)
      have L1 := below_step (below_alloc _ _) hb1
      have c0 := B1.c0
      have c1 := B1.c1
      have c2 := B1.c2
      have hz1 := B1.lt
      go_wp2_with fail
      refine (toB (i_day _ _) hn).mono ?_
      rintro e w2 ⟨rfl, rfl⟩
      go_wp2_with fail
      go_ret2
      exact ⟨ret_ii _ HF.out rfl rfl, L1⟩
  · have hr : regB s.data.toList f t = false := by simpa using hr
    have hF : ryF s.data.toList f t n = (0, 1) := by unfold ryF; rw [hr]; rfl
    have HF := Lib.hid hF; clear hF
    go_enter Tryd.func45, Tryd.ntmps45
    go_wp2_with fail
    refine (toBelowB (i_reg _ _ _ _ hs) hr).mono ?_
    rintro e w1 ⟨rfl, hb1⟩
    have B1 := (Blk.new w 54 #[.string s, .int .i64 f, .int .i64 t]).below hb1 (by simp)
    have L1 := below_step (below_alloc _ _) hb1
    have c0 := B1.c0
    have c1 := B1.c1
    have c2 := B1.c2
    have hz1 := B1.lt
    go_wp2_with fail
    go_ret2
    exact ⟨ret_ii _ HF.out rfl rfl, L1⟩
set_option maxHeartbeats 800000 in
theorem i_CountYears (s : ByteArray) (f t : Int) (w : World) (hs : s.size ≤ 9223372036854775807) : Calls Tryd.prog 37 #[.agg #[.string s, .int .i64 f, .int .i64 t]] w fun e w' => e = .returned (.tuple #[.int .i64 (cyF s.data.toList f t).1, .int .i64 (cyF s.data.toList f t).2]) ∧ Below w.heap.size w w' := by
  by_cases hr : regB s.data.toList f t = true
  · obtain ⟨r0, r1, r2⟩ := reg_open hr
    have hF : cyF s.data.toList f t = (ky f t, 0) := by unfold cyF; rw [hr]; rfl
    have HF := Lib.hid hF; clear hF
    go_enter Tryd.func37, Tryd.ntmps37
    go_wp2_with fail
    refine (toBelowB (i_reg _ _ _ _ hs) hr).mono ?_
    rintro e w1 ⟨rfl, hb1⟩
    have B1 := (Blk.new w 54 #[.string s, .int .i64 f, .int .i64 t]).below hb1 (by simp)
    have L1 := below_step (below_alloc _ _) hb1
    have c0 := B1.c0
    have c1 := B1.c1
    have c2 := B1.c2
    have hz1 := B1.lt
    go_wp2_with fail
    refine (i_year7 _ _ _ _ _ r0 (by omega) (by omega)).mono ?_
    rintro e w4 ⟨rfl, hb4⟩
    go_wp2_with fail
    go_ret2
    exact ⟨ret_ii _ HF.out rfl rfl, L1.trans (hb4.mono (Nat.le_of_lt hz1))⟩
  · have hr : regB s.data.toList f t = false := by simpa using hr
    have hF : cyF s.data.toList f t = (0, 1) := by unfold cyF; rw [hr]; rfl
    have HF := Lib.hid hF; clear hF
    go_enter Tryd.func37, Tryd.ntmps37
    go_wp2_with fail
    refine (toBelowB (i_reg _ _ _ _ hs) hr).mono ?_
    rintro e w1 ⟨rfl, hb1⟩
    have B1 := (Blk.new w 54 #[.string s, .int .i64 f, .int .i64 t]).below hb1 (by simp)
    have L1 := below_step (below_alloc _ _) hb1
    have c0 := B1.c0
    have c1 := B1.c1
    have c2 := B1.c2
    have hz1 := B1.lt
    go_wp2_with fail
    go_ret2
    exact ⟨ret_ii _ HF.out rfl rfl, L1⟩
set_option maxHeartbeats 800000 in
theorem i_RegnalSpan (s : ByteArray) (f t k : Int) (w : World) (hs : s.size ≤ 9223372036854775807) (k1 : k ≤ 9223372036854775807) : Calls Tryd.prog 47 #[.agg #[.string s, .int .i64 f, .int .i64 t], .int .i64 k] w fun e w' => e = .returned (.tuple #[.agg #[.int .i64 (rsF s.data.toList f t k).1.1, .int .i64 (rsF s.data.toList f t k).1.2], .int .i64 (rsF s.data.toList f t k).2]) ∧ Below w.heap.size w w' := by
  by_cases hr : regB s.data.toList f t = true
  · obtain ⟨r0, r1, r2⟩ := reg_open hr
    by_cases hk : k < 1
    · have hF : rsF s.data.toList f t k = ((0, 0), 2) := by unfold rsF; rw [hr, if_pos rfl, if_pos hk]
      rw [hF]; clear hF
      go_enter Tryd.func47, Tryd.ntmps47
      go_wp2_with fail
      refine (toBelowB (i_reg _ _ _ _ hs) hr).mono ?_
      rintro e w1 ⟨rfl, hb1⟩
      have B1 := ((Blk.new w 54 #[.string s, .int .i64 f, .int .i64 t]).alloc (.cells #[.int .i64 0, .int .i64 0] 40)).below hb1 (by simp; omega)
      have L1 := (below_more (below_alloc w (.cells #[.string s, .int .i64 f, .int .i64 t] 54)) (by simp) (.cells #[.int .i64 0, .int .i64 0] 40)).trans (hb1.mono (by simp; omega))
      have c0 := B1.c0
      have c1 := B1.c1
      have c2 := B1.c2
      have hz1 := B1.lt
      have R1 := (Blk.new' (w.alloc (.cells #[.string s, .int .i64 f, .int .i64 t] 54)) 40 #[.int .i64 0, .int .i64 0] (w.heap.size + 1) (by simp)).below hb1 (by simp)
      have g0 := R1.c0
      have g1 := R1.c1
      have v0 := R1.frozen 0
      have v1 := R1.frozen 1
      have hy1 := R1.lt
      go_wp2_with fail
      refine bodyPost_ret (v := .tuple #[.agg #[.int .i64 0, .int .i64 0], .int .i64 2]) (by simp [results, Tryd.results47, go_sem, g0, g1]) rfl ⟨rfl, ?_⟩
      exact below_set' (below_set' L1 (by omega) _ _) (by omega) _ _
    · have hk' : 1 ≤ k := by omega
      have con := fun W => i_span7 s f t k W r0 r1 r2 hk' k1
      obtain ⟨p, hp⟩ : ∃ p, rsp f t k = p := ⟨_, rfl⟩
      obtain ⟨⟨a, b⟩, ok⟩ := p
      rw [hp] at con
      have CON := Lib.hid con; clear con
      cases ok
      · have hF : rsF s.data.toList f t k = ((0, 0), 4) := by unfold rsF; rw [hr, if_pos rfl, if_neg hk, hp]; rfl
        rw [hF]; clear hF hk hp
        go_enter Tryd.func47, Tryd.ntmps47
        go_wp2_with fail
        refine (toBelowB (i_reg _ _ _ _ hs) hr).mono ?_
        rintro e w1 ⟨rfl, hb1⟩
        have B1 := ((Blk.new w 54 #[.string s, .int .i64 f, .int .i64 t]).alloc (.cells #[.int .i64 0, .int .i64 0] 40)).below hb1 (by simp; omega)
        have L1 := (below_more (below_alloc w (.cells #[.string s, .int .i64 f, .int .i64 t] 54)) (by simp) (.cells #[.int .i64 0, .int .i64 0] 40)).trans (hb1.mono (by simp; omega))
        have c0 := B1.c0
        have c1 := B1.c1
        have c2 := B1.c2
        have hz1 := B1.lt
        have R1 := (Blk.new' (w.alloc (.cells #[.string s, .int .i64 f, .int .i64 t] 54)) 40 #[.int .i64 0, .int .i64 0] (w.heap.size + 1) (by simp)).below hb1 (by simp)
        have g0 := R1.c0
        have g1 := R1.c1
        have v0 := R1.frozen 0
        have v1 := R1.frozen 1
        have hy1 := R1.lt
        go_wp2_with fail
        refine (CON.out _).mono ?_
        rintro e w4 ⟨rfl, hb4⟩
        have R4 := R1.below hb4 R1.lt
        have L4 := L1.trans (hb4.mono (Nat.le_of_lt hz1))
        have e0 := R4.c0
        have e1 := R4.c1
        have u0 := R4.frozen 0
        have u1 := R4.frozen 1
        have hz4 := R4.lt
        have hz5 : w.heap.size < w4.heap.size := by omega
        clear g0 g1 v0 v1 hy1
        go_wp2_with fail
        refine bodyPost_ret (v := .tuple #[.agg #[.int .i64 0, .int .i64 0], .int .i64 4]) (by simp [results, Tryd.results47, go_sem, e0, e1, hz4]) rfl ⟨rfl, ?_⟩
        exact below_more (below_set' (below_set' L4 (by omega) _ _) (by omega) _ _) (by simp; omega) _
      · have hF : rsF s.data.toList f t k = ((a, b), 0) := by unfold rsF; rw [hr, if_pos rfl, if_neg hk, hp]; rfl
        rw [hF]; clear hF hk hp
        go_enter Tryd.func47, Tryd.ntmps47
        go_wp2_with fail
        refine (toBelowB (i_reg _ _ _ _ hs) hr).mono ?_
        rintro e w1 ⟨rfl, hb1⟩
        have B1 := ((Blk.new w 54 #[.string s, .int .i64 f, .int .i64 t]).alloc (.cells #[.int .i64 0, .int .i64 0] 40)).below hb1 (by simp; omega)
        have L1 := (below_more (below_alloc w (.cells #[.string s, .int .i64 f, .int .i64 t] 54)) (by simp) (.cells #[.int .i64 0, .int .i64 0] 40)).trans (hb1.mono (by simp; omega))
        have c0 := B1.c0
        have c1 := B1.c1
        have c2 := B1.c2
        have hz1 := B1.lt
        have R1 := (Blk.new' (w.alloc (.cells #[.string s, .int .i64 f, .int .i64 t] 54)) 40 #[.int .i64 0, .int .i64 0] (w.heap.size + 1) (by simp)).below hb1 (by simp)
        have g0 := R1.c0
        have g1 := R1.c1
        have v0 := R1.frozen 0
        have v1 := R1.frozen 1
        have hy1 := R1.lt
        go_wp2_with fail
        refine (CON.out _).mono ?_
        rintro e w4 ⟨rfl, hb4⟩
        have R4 := R1.below hb4 R1.lt
        have L4 := L1.trans (hb4.mono (Nat.le_of_lt hz1))
        have e0 := R4.c0
        have e1 := R4.c1
        have u0 := R4.frozen 0
        have u1 := R4.frozen 1
        have hz4 := R4.lt
        have hz5 : w.heap.size < w4.heap.size := by omega
        clear g0 g1 v0 v1 hy1
        go_wp2_with fail
        refine bodyPost_ret (v := .tuple #[.agg #[.int .i64 a, .int .i64 b], .int .i64 0]) (by simp [results, Tryd.results47, go_sem, e0, e1, hz4]) rfl ⟨rfl, ?_⟩
        exact below_more (below_set' (below_set' L4 (by omega) _ _) (by omega) _ _) (by simp; omega) _
  · have hr : regB s.data.toList f t = false := by simpa using hr
    have hF : rsF s.data.toList f t k = ((0, 0), 1) := by unfold rsF; rw [hr]; rfl
    rw [hF]; clear hF
    go_enter Tryd.func47, Tryd.ntmps47
    go_wp2_with fail
    refine (toBelowB (i_reg _ _ _ _ hs) hr).mono ?_
    rintro e w1 ⟨rfl, hb1⟩
    have B1 := ((Blk.new w 54 #[.string s, .int .i64 f, .int .i64 t]).alloc (.cells #[.int .i64 0, .int .i64 0] 40)).below hb1 (by simp; omega)
    have L1 := (below_more (below_alloc w (.cells #[.string s, .int .i64 f, .int .i64 t] 54)) (by simp) (.cells #[.int .i64 0, .int .i64 0] 40)).trans (hb1.mono (by simp; omega))
    have c0 := B1.c0
    have c1 := B1.c1
    have c2 := B1.c2
    have hz1 := B1.lt
    have R1 := (Blk.new' (w.alloc (.cells #[.string s, .int .i64 f, .int .i64 t] 54)) 40 #[.int .i64 0, .int .i64 0] (w.heap.size + 1) (by simp)).below hb1 (by simp)
    have g0 := R1.c0
    have g1 := R1.c1
    have v0 := R1.frozen 0
    have v1 := R1.frozen 1
    have hy1 := R1.lt
    go_wp2_with fail
    refine bodyPost_ret (v := .tuple #[.agg #[.int .i64 0, .int .i64 0], .int .i64 1]) (by simp [results, Tryd.results47, go_sem, g0, g1]) rfl ⟨rfl, ?_⟩
    exact below_set' (below_set' L1 (by omega) _ _) (by omega) _ _
end Go.Proofs.YtffpaedhdjnbjaaDoor
