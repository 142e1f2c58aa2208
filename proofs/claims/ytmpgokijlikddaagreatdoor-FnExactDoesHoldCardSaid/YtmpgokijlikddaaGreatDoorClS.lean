/- IsClause: the reference's function returns what the plain function says. Condition: a length that a machine can hold. -/
import Derived.Test.YtmpgokijlikddaaGreatDoorCl
namespace Go.Proofs.YtmpgokijlikddaaGreatDoor
open Go.RowKit
theorem s_rel (r d : Int) (w : World) : Calls Tryz.prog 203 #[.int .i64 r, .int .i64 d] w fun e w' => e = .returned (.bool (relB2 r d)) ∧ w = w' := by
  cases h2 : inB r 0 4
  · have HF := Lib.hid (show relB2 r d = false by unfold relB2; rw [h2]; rfl)
    go_enter Tryz.func203, Tryz.ntmps203
    go_wp2_with fail
    refine (toB (s_in _ _ _ _) h2).mono ?_
    rintro e w1 ⟨rfl, rfl⟩
    go_wp2_with fail
    go_ret
    exact ⟨ret_bF HF.out, rfl⟩
  · cases h3 : inB d 0 6
    · have HF := Lib.hid (show relB2 r d = false by unfold relB2; rw [h2, h3]; rfl)
      go_enter Tryz.func203, Tryz.ntmps203
      go_wp2_with fail
      refine (toB (s_in _ _ _ _) h2).mono ?_
      rintro e w1 ⟨rfl, rfl⟩
      go_wp2_with fail
      refine (toB (s_in _ _ _ _) h3).mono ?_
      rintro e w1 ⟨rfl, rfl⟩
      go_wp2_with fail
      go_ret
      exact ⟨ret_bF HF.out, rfl⟩
    · have HF := Lib.hid (show relB2 r d = (decide (3 ≤ r) || decide (d = 0)) by unfold relB2; rw [h2, h3]; rfl)
      go_enter Tryz.func203, Tryz.ntmps203
      go_wp2_with fail
      refine (toB (s_in _ _ _ _) h2).mono ?_
      rintro e w1 ⟨rfl, rfl⟩
      go_wp2_with fail
      refine (toB (s_in _ _ _ _) h3).mono ?_
      rintro e w1 ⟨rfl, rfl⟩
      go_wp2_with fail
      all_goals
        go_ret
        first
          | exact ⟨by rw [HF.out]; rfl, rfl⟩
          | exact ⟨by rw [HF.out]; simp [*], rfl⟩
set_option maxRecDepth 100000 in
set_option maxHeartbeats 1000000 in
theorem s_cl1 (n m f r d s : Int) (k : ByteArray) (w : World) : Calls Tryz.prog 153 #[.agg #[.int .i64 1, .int .i64 n, .int .i64 m, .int .i64 f, .int .i64 r, .int .i64 d, .int .i64 s, .string k]] w fun e w' => e = .returned (.bool (clB 1 n m f r d s k)) ∧ Below w.heap.size w w' := by
  cases h1 : inB f 0 19
  · go_enter Tryz.func153, Tryz.ntmps153
    go_wp2_with fail
    all_goals
      first
        | (refine (toB (s_feast _ _) h1).mono ?_
           rintro e w1 ⟨rfl, rfl⟩
           go_wp2_with fail
           go_ret
           first
             | exact ⟨ret_bT (by simp [clB, relB, *]), below_more (below_alloc _ _) (by simp) _⟩
             | exact ⟨ret_bF (by simp_all [clB, relB]), below_more (below_alloc _ _) (by simp) _⟩
             | exact ⟨ret_bT (by simp [clB, relB, *]), LL⟩
             | exact ⟨ret_bF (by simp_all [clB, relB]), LL⟩)
        | (go_ret
           first
             | exact ⟨ret_bT (by simp [clB, relB, *]), below_more (below_alloc _ _) (by simp) _⟩
             | exact ⟨ret_bF (by simp_all [clB, relB]), below_more (below_alloc _ _) (by simp) _⟩
             | exact ⟨ret_bT (by simp [clB, relB, *]), LL⟩
             | exact ⟨ret_bF (by simp_all [clB, relB]), LL⟩)
  · cases h2 : relB2 r d
    · go_enter Tryz.func153, Tryz.ntmps153
      go_wp2_with fail
      all_goals
        first
          | (refine (toB (s_feast _ _) h1).mono ?_
             rintro e w1 ⟨rfl, rfl⟩
             go_wp2_with fail
             refine (toB (s_rel _ _ _) h2).mono ?_
             rintro e w1 ⟨rfl, rfl⟩
             go_wp2_with fail
             go_ret
             first
               | exact ⟨ret_bT (by simp [clB, relB, *]), below_more (below_alloc _ _) (by simp) _⟩
               | exact ⟨ret_bF (by simp_all [clB, relB]), below_more (below_alloc _ _) (by simp) _⟩
               | exact ⟨ret_bT (by simp [clB, relB, *]), LL⟩
               | exact ⟨ret_bF (by simp_all [clB, relB]), LL⟩)
          | (go_ret
             first
               | exact ⟨ret_bT (by simp [clB, relB, *]), below_more (below_alloc _ _) (by simp) _⟩
               | exact ⟨ret_bF (by simp_all [clB, relB]), below_more (below_alloc _ _) (by simp) _⟩
               | exact ⟨ret_bT (by simp [clB, relB, *]), LL⟩
               | exact ⟨ret_bF (by simp_all [clB, relB]), LL⟩)
    · go_enter Tryz.func153, Tryz.ntmps153
      go_wp2_with fail
      all_goals
        first
          | (refine (toB (s_feast _ _) h1).mono ?_
             rintro e w1 ⟨rfl, rfl⟩
             go_wp2_with fail
             refine (toB (s_rel _ _ _) h2).mono ?_
             rintro e w1 ⟨rfl, rfl⟩
             go_wp2_with fail
             go_ret
             first
               | exact ⟨ret_bT (by simp [clB, relB, *]), below_more (below_alloc _ _) (by simp) _⟩
               | exact ⟨ret_bF (by simp_all [clB, relB]), below_more (below_alloc _ _) (by simp) _⟩
               | exact ⟨ret_bT (by simp [clB, relB, *]), LL⟩
               | exact ⟨ret_bF (by simp_all [clB, relB]), LL⟩)
          | (go_ret
             first
               | exact ⟨ret_bT (by simp [clB, relB, *]), below_more (below_alloc _ _) (by simp) _⟩
               | exact ⟨ret_bF (by simp_all [clB, relB]), below_more (below_alloc _ _) (by simp) _⟩
               | exact ⟨ret_bT (by simp [clB, relB, *]), LL⟩
               | exact ⟨ret_bF (by simp_all [clB, relB]), LL⟩)
set_option maxRecDepth 100000 in
set_option maxHeartbeats 1000000 in
theorem s_cl2 (n m f r d s : Int) (k : ByteArray) (w : World) (hs : k.size ≤ 9223372036854775807) : Calls Tryz.prog 153 #[.agg #[.int .i64 2, .int .i64 n, .int .i64 m, .int .i64 f, .int .i64 r, .int .i64 d, .int .i64 s, .string k]] w fun e w' => e = .returned (.bool (clB 2 n m f r d s k)) ∧ Below w.heap.size w w' := by
  cases h1 : inB n 1 99
  · go_enter Tryz.func153, Tryz.ntmps153
    go_wp2_with fail
    all_goals
      first
        | (refine (toB (s_in _ _ _ _) h1).mono ?_
           rintro e w1 ⟨rfl, rfl⟩
           go_wp2_with fail
           go_ret
           first
             | exact ⟨ret_bT (by simp [clB, *]), below_more (below_alloc _ _) (by simp) _⟩
             | exact ⟨ret_bF (by simp_all [clB]), below_more (below_alloc _ _) (by simp) _⟩
             | exact ⟨ret_bT (by simp [clB, *]), LL⟩
             | exact ⟨ret_bF (by simp_all [clB]), LL⟩)
        | (go_ret
           first
             | exact ⟨ret_bT (by simp [clB, *]), below_more (below_alloc _ _) (by simp) _⟩
             | exact ⟨ret_bF (by simp_all [clB]), below_more (below_alloc _ _) (by simp) _⟩
             | exact ⟨ret_bT (by simp [clB, *]), LL⟩
             | exact ⟨ret_bF (by simp_all [clB]), LL⟩)
  · cases h2 : smallB k.data.toList 12
    · go_enter Tryz.func153, Tryz.ntmps153
      go_wp2_with fail
      all_goals
        first
          | (refine (toB (s_in _ _ _ _) h1).mono ?_
             rintro e w1 ⟨rfl, rfl⟩
             go_wp2_with fail
             refine (toB (s_small _ _ _ hs) h2).mono ?_
             rintro e w1 ⟨rfl, rfl⟩
             go_wp2_with fail
             go_ret
             first
               | exact ⟨ret_bT (by simp [clB, *]), below_more (below_alloc _ _) (by simp) _⟩
               | exact ⟨ret_bF (by simp_all [clB]), below_more (below_alloc _ _) (by simp) _⟩
               | exact ⟨ret_bT (by simp [clB, *]), LL⟩
               | exact ⟨ret_bF (by simp_all [clB]), LL⟩)
          | (go_ret
             first
               | exact ⟨ret_bT (by simp [clB, *]), below_more (below_alloc _ _) (by simp) _⟩
               | exact ⟨ret_bF (by simp_all [clB]), below_more (below_alloc _ _) (by simp) _⟩
               | exact ⟨ret_bT (by simp [clB, *]), LL⟩
               | exact ⟨ret_bF (by simp_all [clB]), LL⟩)
    · go_enter Tryz.func153, Tryz.ntmps153
      go_wp2_with fail
      all_goals
        first
          | (refine (toB (s_in _ _ _ _) h1).mono ?_
             rintro e w1 ⟨rfl, rfl⟩
             go_wp2_with fail
             refine (toB (s_small _ _ _ hs) h2).mono ?_
             rintro e w1 ⟨rfl, rfl⟩
             go_wp2_with fail
             go_ret
             first
               | exact ⟨ret_bT (by simp [clB, *]), below_more (below_alloc _ _) (by simp) _⟩
               | exact ⟨ret_bF (by simp_all [clB]), below_more (below_alloc _ _) (by simp) _⟩
               | exact ⟨ret_bT (by simp [clB, *]), LL⟩
               | exact ⟨ret_bF (by simp_all [clB]), LL⟩)
          | (go_ret
             first
               | exact ⟨ret_bT (by simp [clB, *]), below_more (below_alloc _ _) (by simp) _⟩
               | exact ⟨ret_bF (by simp_all [clB]), below_more (below_alloc _ _) (by simp) _⟩
               | exact ⟨ret_bT (by simp [clB, *]), LL⟩
               | exact ⟨ret_bF (by simp_all [clB]), LL⟩)
set_option maxRecDepth 100000 in
set_option maxHeartbeats 1000000 in
theorem s_cl3 (n m f r d s : Int) (k : ByteArray) (w : World) : Calls Tryz.prog 153 #[.agg #[.int .i64 3, .int .i64 n, .int .i64 m, .int .i64 f, .int .i64 r, .int .i64 d, .int .i64 s, .string k]] w fun e w' => e = .returned (.bool (clB 3 n m f r d s k)) ∧ Below w.heap.size w w' := by
  cases h1 : inB n 2 1999
  · go_enter Tryz.func153, Tryz.ntmps153
    go_wp2_with fail
    all_goals
      first
        | (refine (toB (s_styear _ _) h1).mono ?_
           rintro e w1 ⟨rfl, rfl⟩
           go_wp2_with fail
           go_ret
           first
             | exact ⟨ret_bT (by simp [clB, *]), below_more (below_alloc _ _) (by simp) _⟩
             | exact ⟨ret_bF (by simp_all [clB]), below_more (below_alloc _ _) (by simp) _⟩
             | exact ⟨ret_bT (by simp [clB, *]), LL⟩
             | exact ⟨ret_bF (by simp_all [clB]), LL⟩)
        | (go_ret
           first
             | exact ⟨ret_bT (by simp [clB, *]), below_more (below_alloc _ _) (by simp) _⟩
             | exact ⟨ret_bF (by simp_all [clB]), below_more (below_alloc _ _) (by simp) _⟩
             | exact ⟨ret_bT (by simp [clB, *]), LL⟩
             | exact ⟨ret_bF (by simp_all [clB]), LL⟩)
  · cases h2 : inB s 0 6
    · go_enter Tryz.func153, Tryz.ntmps153
      go_wp2_with fail
      all_goals
        first
          | (refine (toB (s_styear _ _) h1).mono ?_
             rintro e w1 ⟨rfl, rfl⟩
             go_wp2_with fail
             refine (toB (s_style _ _) h2).mono ?_
             rintro e w1 ⟨rfl, rfl⟩
             go_wp2_with fail
             go_ret
             first
               | exact ⟨ret_bT (by simp [clB, *]), below_more (below_alloc _ _) (by simp) _⟩
               | exact ⟨ret_bF (by simp_all [clB]), below_more (below_alloc _ _) (by simp) _⟩
               | exact ⟨ret_bT (by simp [clB, *]), LL⟩
               | exact ⟨ret_bF (by simp_all [clB]), LL⟩)
          | (go_ret
             first
               | exact ⟨ret_bT (by simp [clB, *]), below_more (below_alloc _ _) (by simp) _⟩
               | exact ⟨ret_bF (by simp_all [clB]), below_more (below_alloc _ _) (by simp) _⟩
               | exact ⟨ret_bT (by simp [clB, *]), LL⟩
               | exact ⟨ret_bF (by simp_all [clB]), LL⟩)
    · go_enter Tryz.func153, Tryz.ntmps153
      go_wp2_with fail
      all_goals
        first
          | (refine (toB (s_styear _ _) h1).mono ?_
             rintro e w1 ⟨rfl, rfl⟩
             go_wp2_with fail
             refine (toB (s_style _ _) h2).mono ?_
             rintro e w1 ⟨rfl, rfl⟩
             go_wp2_with fail
             go_ret
             first
               | exact ⟨ret_bT (by simp [clB, *]), below_more (below_alloc _ _) (by simp) _⟩
               | exact ⟨ret_bF (by simp_all [clB]), below_more (below_alloc _ _) (by simp) _⟩
               | exact ⟨ret_bT (by simp [clB, *]), LL⟩
               | exact ⟨ret_bF (by simp_all [clB]), LL⟩)
          | (go_ret
             first
               | exact ⟨ret_bT (by simp [clB, *]), below_more (below_alloc _ _) (by simp) _⟩
               | exact ⟨ret_bF (by simp_all [clB]), below_more (below_alloc _ _) (by simp) _⟩
               | exact ⟨ret_bT (by simp [clB, *]), LL⟩
               | exact ⟨ret_bF (by simp_all [clB]), LL⟩)
set_option maxRecDepth 100000 in
set_option maxHeartbeats 1000000 in
theorem s_cl4 (n m f r d s : Int) (k : ByteArray) (w : World) : Calls Tryz.prog 153 #[.agg #[.int .i64 4, .int .i64 n, .int .i64 m, .int .i64 f, .int .i64 r, .int .i64 d, .int .i64 s, .string k]] w fun e w' => e = .returned (.bool (clB 4 n m f r d s k)) ∧ Below w.heap.size w w' := by
  cases h1 : inB n 1 15
  · go_enter Tryz.func153, Tryz.ntmps153
    go_wp2_with fail
    all_goals
      first
        | (refine (toB (s_in _ _ _ _) h1).mono ?_
           rintro e w1 ⟨rfl, rfl⟩
           go_wp2_with fail
           go_ret
           first
             | exact ⟨ret_bT (by simp [clB, *]), below_more (below_alloc _ _) (by simp) _⟩
             | exact ⟨ret_bF (by simp_all [clB]), below_more (below_alloc _ _) (by simp) _⟩
             | exact ⟨ret_bT (by simp [clB, *]), LL⟩
             | exact ⟨ret_bF (by simp_all [clB]), LL⟩)
        | (go_ret
           first
             | exact ⟨ret_bT (by simp [clB, *]), below_more (below_alloc _ _) (by simp) _⟩
             | exact ⟨ret_bF (by simp_all [clB]), below_more (below_alloc _ _) (by simp) _⟩
             | exact ⟨ret_bT (by simp [clB, *]), LL⟩
             | exact ⟨ret_bF (by simp_all [clB]), LL⟩)
  · cases h2 : inB s 0 2
    · go_enter Tryz.func153, Tryz.ntmps153
      go_wp2_with fail
      all_goals
        first
          | (refine (toB (s_in _ _ _ _) h1).mono ?_
             rintro e w1 ⟨rfl, rfl⟩
             go_wp2_with fail
             refine (toB (s_kind _ _) h2).mono ?_
             rintro e w1 ⟨rfl, rfl⟩
             go_wp2_with fail
             go_ret
             first
               | exact ⟨ret_bT (by simp [clB, *]), below_more (below_alloc _ _) (by simp) _⟩
               | exact ⟨ret_bF (by simp_all [clB]), below_more (below_alloc _ _) (by simp) _⟩
               | exact ⟨ret_bT (by simp [clB, *]), LL⟩
               | exact ⟨ret_bF (by simp_all [clB]), LL⟩)
          | (go_ret
             first
               | exact ⟨ret_bT (by simp [clB, *]), below_more (below_alloc _ _) (by simp) _⟩
               | exact ⟨ret_bF (by simp_all [clB]), below_more (below_alloc _ _) (by simp) _⟩
               | exact ⟨ret_bT (by simp [clB, *]), LL⟩
               | exact ⟨ret_bF (by simp_all [clB]), LL⟩)
    · go_enter Tryz.func153, Tryz.ntmps153
      go_wp2_with fail
      all_goals
        first
          | (refine (toB (s_in _ _ _ _) h1).mono ?_
             rintro e w1 ⟨rfl, rfl⟩
             go_wp2_with fail
             refine (toB (s_kind _ _) h2).mono ?_
             rintro e w1 ⟨rfl, rfl⟩
             go_wp2_with fail
             go_ret
             first
               | exact ⟨ret_bT (by simp [clB, *]), below_more (below_alloc _ _) (by simp) _⟩
               | exact ⟨ret_bF (by simp_all [clB]), below_more (below_alloc _ _) (by simp) _⟩
               | exact ⟨ret_bT (by simp [clB, *]), LL⟩
               | exact ⟨ret_bF (by simp_all [clB]), LL⟩)
          | (go_ret
             first
               | exact ⟨ret_bT (by simp [clB, *]), below_more (below_alloc _ _) (by simp) _⟩
               | exact ⟨ret_bF (by simp_all [clB]), below_more (below_alloc _ _) (by simp) _⟩
               | exact ⟨ret_bT (by simp [clB, *]), LL⟩
               | exact ⟨ret_bF (by simp_all [clB]), LL⟩)
set_option maxRecDepth 100000 in
set_option maxHeartbeats 1000000 in
theorem s_cl5 (n m f r d s : Int) (k : ByteArray) (w : World) : Calls Tryz.prog 153 #[.agg #[.int .i64 5, .int .i64 n, .int .i64 m, .int .i64 f, .int .i64 r, .int .i64 d, .int .i64 s, .string k]] w fun e w' => e = .returned (.bool (clB 5 n m f r d s k)) ∧ Below w.heap.size w w' := by
  cases h1 : inB d 0 6
  · go_enter Tryz.func153, Tryz.ntmps153
    go_wp2_with fail
    all_goals
      first
        | (refine (toB (s_in _ _ _ _) h1).mono ?_
           rintro e w1 ⟨rfl, rfl⟩
           go_wp2_with fail
           go_ret
           first
             | exact ⟨ret_bT (by simp [clB, *]), below_more (below_alloc _ _) (by simp) _⟩
             | exact ⟨ret_bF (by simp_all [clB]), below_more (below_alloc _ _) (by simp) _⟩
             | exact ⟨ret_bT (by simp [clB, *]), LL⟩
             | exact ⟨ret_bF (by simp_all [clB]), LL⟩)
        | (go_ret
           first
             | exact ⟨ret_bT (by simp [clB, *]), below_more (below_alloc _ _) (by simp) _⟩
             | exact ⟨ret_bF (by simp_all [clB]), below_more (below_alloc _ _) (by simp) _⟩
             | exact ⟨ret_bT (by simp [clB, *]), LL⟩
             | exact ⟨ret_bF (by simp_all [clB]), LL⟩)
  · go_enter Tryz.func153, Tryz.ntmps153
    go_wp2_with fail
    all_goals
      first
        | (refine (toB (s_in _ _ _ _) h1).mono ?_
           rintro e w1 ⟨rfl, rfl⟩
           go_wp2_with fail
           go_ret
           first
             | exact ⟨ret_bT (by simp [clB, *]), below_more (below_alloc _ _) (by simp) _⟩
             | exact ⟨ret_bF (by simp_all [clB]), below_more (below_alloc _ _) (by simp) _⟩
             | exact ⟨ret_bT (by simp [clB, *]), LL⟩
             | exact ⟨ret_bF (by simp_all [clB]), LL⟩)
        | (go_ret
           first
             | exact ⟨ret_bT (by simp [clB, *]), below_more (below_alloc _ _) (by simp) _⟩
             | exact ⟨ret_bF (by simp_all [clB]), below_more (below_alloc _ _) (by simp) _⟩
             | exact ⟨ret_bT (by simp [clB, *]), LL⟩
             | exact ⟨ret_bF (by simp_all [clB]), LL⟩)
set_option maxRecDepth 100000 in
set_option maxHeartbeats 1000000 in
theorem s_cl0 (n m f r d s : Int) (k : ByteArray) (w : World) : Calls Tryz.prog 153 #[.agg #[.int .i64 0, .int .i64 n, .int .i64 m, .int .i64 f, .int .i64 r, .int .i64 d, .int .i64 s, .string k]] w fun e w' => e = .returned (.bool (clB 0 n m f r d s k)) ∧ Below w.heap.size w w' := by
  cases h1 : validB 4 m n
  all_goals
    go_enter Tryz.func153, Tryz.ntmps153
    go_wp2_with fail
    all_goals
      first
        | (refine (toBelowB (s_old _ _ _ _) h1).mono ?_
           rintro e w1 ⟨rfl, hb⟩
           have LL := (below_more (below_alloc w _) (by simp) _).trans (hb.mono (by simp; omega))
           go_wp2_with fail
           go_ret
           first
             | exact ⟨ret_bT (by simp [clB, *]), below_more (below_alloc _ _) (by simp) _⟩
             | exact ⟨ret_bF (by simp_all [clB]), below_more (below_alloc _ _) (by simp) _⟩
             | exact ⟨ret_bT (by simp [clB, *]), LL⟩
             | exact ⟨ret_bF (by simp_all [clB]), LL⟩)
        | (go_ret
           first
             | exact ⟨ret_bT (by simp [clB, *]), below_more (below_alloc _ _) (by simp) _⟩
             | exact ⟨ret_bF (by simp_all [clB]), below_more (below_alloc _ _) (by simp) _⟩
             | exact ⟨ret_bT (by simp [clB, *]), LL⟩
             | exact ⟨ret_bF (by simp_all [clB]), LL⟩)
set_option maxRecDepth 100000 in
set_option maxHeartbeats 1000000 in
theorem s_clE (q : Int) (h0 : ¬ q = 0) (h1 : ¬ q = 1) (h2 : ¬ q = 2) (h3 : ¬ q = 3) (h4 : ¬ q = 4) (h5 : ¬ q = 5) (n m f r d s : Int) (k : ByteArray) (w : World) : Calls Tryz.prog 153 #[.agg #[.int .i64 q, .int .i64 n, .int .i64 m, .int .i64 f, .int .i64 r, .int .i64 d, .int .i64 s, .string k]] w fun e w' => e = .returned (.bool (clB q n m f r d s k)) ∧ Below w.heap.size w w' := by
  go_enter Tryz.func153, Tryz.ntmps153
  go_wp2_with fail
  all_goals
    go_ret
    first
      | exact ⟨ret_bT (by simp [clB, *]), below_more (below_alloc _ _) (by simp) _⟩
      | exact ⟨ret_bF (by simp_all [clB]), below_more (below_alloc _ _) (by simp) _⟩
      | exact ⟨ret_bT (by simp [clB, *]), LL⟩
      | exact ⟨ret_bF (by simp_all [clB]), LL⟩
end Go.Proofs.YtmpgokijlikddaaGreatDoor
