/- IsClause: the program's and the reference's functions return what the plain function says. Condition: a length that a machine can hold. -/
import Derived.Test.YtmpgokijlikddaaGreatDoorSmall
import Derived.Test.YtmpgokijlikddaaGreatDoorNum
import Derived.Test.YtmpgokijlikddaaGreatDoorBlk
namespace Go.Proofs.YtmpgokijlikddaaGreatDoor
open Go.RowKit
def relB2 (r d : Int) : Bool := inB r 0 4 && (inB d 0 6 && (decide (3 ≤ r) || decide (d = 0)))
def relB (f r d : Int) : Bool := inB f 0 19 && relB2 r d
def clB (q n m f r d s : Int) (k : ByteArray) : Bool :=
  if q = 0 then validB 4 m n && decide (f = 0 ∧ r = 0 ∧ d = 0 ∧ s = 0 ∧ k.toList = [])
  else if q = 1 then relB f r d && decide (n = 0 ∧ m = 0 ∧ s = 0 ∧ k.toList = [])
  else if q = 2 then (inB n 1 99 && smallB k.data.toList 12) && decide (m = 0 ∧ f = 0 ∧ r = 0 ∧ d = 0 ∧ s = 0)
  else if q = 3 then (inB n 2 1999 && inB s 0 6) && decide (m = 0 ∧ f = 0 ∧ r = 0 ∧ d = 0 ∧ k.toList = [])
  else if q = 4 then (inB n 1 15 && inB s 0 2) && decide (m = 0 ∧ f = 0 ∧ r = 0 ∧ d = 0 ∧ k.toList = [])
  else if q = 5 then inB d 0 6 && decide (n = 0 ∧ m = 0 ∧ f = 0 ∧ r = 0 ∧ s = 0 ∧ k.toList = [])
  else false
theorem below_undrewC {B : Nat} {a w : World} (h : Below B a.drew w) : Below B a w := ⟨h.os, h.tape, h.output, h.size, h.block⟩
theorem ret_bT {b : Bool} (h : b = true) : Ending.returned (.bool true) = .returned (.bool b) := by rw [h]
theorem ret_bF {b : Bool} (h : b = false) : Ending.returned (.bool false) = .returned (.bool b) := by rw [h]
theorem i_feast (f : Int) (w : World) : Calls Tryz.prog 210 #[.int .i64 f] w fun e w' => e = .returned (.bool (inB f 0 19)) ∧ w = w' := by
  go_enter Tryz.func210, Tryz.ntmps210
  go_wp2_with fail
  refine (i_in _ _ _ _).mono ?_
  rintro e w1 ⟨rfl, rfl⟩
  go_wp2_with fail
  go_ret
  exact ⟨rfl, rfl⟩
theorem s_feast (f : Int) (w : World) : Calls Tryz.prog 202 #[.int .i64 f] w fun e w' => e = .returned (.bool (inB f 0 19)) ∧ w = w' := by
  go_enter Tryz.func202, Tryz.ntmps202
  go_wp2_with fail
  refine (s_in _ _ _ _).mono ?_
  rintro e w1 ⟨rfl, rfl⟩
  go_wp2_with fail
  go_ret
  exact ⟨rfl, rfl⟩
theorem i_rel (f r d : Int) (w : World) : Calls Tryz.prog 159 #[.int .i64 f, .int .i64 r, .int .i64 d] w fun e w' => e = .returned (.bool (relB f r d)) ∧ w = w' := by
  cases h1 : inB f 0 19
  · have HF := Lib.hid (show relB f r d = false by unfold relB relB2; rw [h1]; rfl)
    go_enter Tryz.func159, Tryz.ntmps159
    go_wp2_with fail
    refine (toB (i_feast _ _) h1).mono ?_
    rintro e w1 ⟨rfl, rfl⟩
    go_wp2_with fail
    go_ret
    exact ⟨ret_bF HF.out, rfl⟩
  · cases h2 : inB r 0 4
    · have HF := Lib.hid (show relB f r d = false by unfold relB relB2; rw [h1, h2]; rfl)
      go_enter Tryz.func159, Tryz.ntmps159
      go_wp2_with fail
      refine (toB (i_feast _ _) h1).mono ?_
      rintro e w1 ⟨rfl, rfl⟩
      go_wp2_with fail
      refine (toB (i_in _ _ _ _) h2).mono ?_
      rintro e w1 ⟨rfl, rfl⟩
      go_wp2_with fail
      go_ret
      exact ⟨ret_bF HF.out, rfl⟩
    · cases h3 : inB d 0 6
      · have HF := Lib.hid (show relB f r d = false by unfold relB relB2; rw [h1, h2, h3]; rfl)
        go_enter Tryz.func159, Tryz.ntmps159
        go_wp2_with fail
        refine (toB (i_feast _ _) h1).mono ?_
        rintro e w1 ⟨rfl, rfl⟩
        go_wp2_with fail
        refine (toB (i_in _ _ _ _) h2).mono ?_
        rintro e w1 ⟨rfl, rfl⟩
        go_wp2_with fail
        refine (toB (i_in _ _ _ _) h3).mono ?_
        rintro e w1 ⟨rfl, rfl⟩
        go_wp2_with fail
        go_ret
        exact ⟨ret_bF HF.out, rfl⟩
      · have HF := Lib.hid (show relB f r d = (decide (3 ≤ r) || decide (d = 0)) by unfold relB relB2; rw [h1, h2, h3]; rfl)
        go_enter Tryz.func159, Tryz.ntmps159
        go_wp2_with fail
        refine (toB (i_feast _ _) h1).mono ?_
        rintro e w1 ⟨rfl, rfl⟩
        go_wp2_with fail
        refine (toB (i_in _ _ _ _) h2).mono ?_
        rintro e w1 ⟨rfl, rfl⟩
        go_wp2_with fail
        refine (toB (i_in _ _ _ _) h3).mono ?_
        rintro e w1 ⟨rfl, rfl⟩
        go_wp2_with fail
        all_goals
          go_ret
          first
            | exact ⟨by rw [HF.out]; rfl, rfl⟩
            | exact ⟨by rw [HF.out]; simp [*], rfl⟩
set_option maxRecDepth 100000 in
set_option maxHeartbeats 1000000 in
theorem i_cl1 (n m f r d s : Int) (k : ByteArray) (w : World) : Calls Tryz.prog 97 #[.agg #[.int .i64 1, .int .i64 n, .int .i64 m, .int .i64 f, .int .i64 r, .int .i64 d, .int .i64 s, .string k]] w fun e w' => e = .returned (.bool (clB 1 n m f r d s k)) ∧ Below w.heap.size w w' := by
  cases h1 : relB f r d
  · go_enter Tryz.func97, Tryz.ntmps97
    go_wp2_with fail
    go_region
    all_goals (try go_wp2_with fail)
    refine (toB (i_rel _ _ _ _) h1).mono ?_
    rintro e w1 ⟨rfl, rfl⟩
    go_wp2_with fail
    all_goals
      go_ret
      first
        | (refine ⟨ret_bT ?_, ?_⟩; · (simp [clB, *]; done))
        | (refine ⟨ret_bF ?_, ?_⟩; · (simp_all [clB]; done))
    all_goals
      (first
        | exact below_more (below_alloc _ _) (by simp) _
        | exact (below_more (below_alloc _ _) (by simp) _).drew
        | exact LL)
  · go_enter Tryz.func97, Tryz.ntmps97
    go_wp2_with fail
    go_region
    all_goals (try go_wp2_with fail)
    refine (toB (i_rel _ _ _ _) h1).mono ?_
    rintro e w1 ⟨rfl, rfl⟩
    go_wp2_with fail
    all_goals
      go_ret
      first
        | (refine ⟨ret_bT ?_, ?_⟩; · (simp [clB, *]; done))
        | (refine ⟨ret_bF ?_, ?_⟩; · (simp_all [clB]; done))
    all_goals
      (first
        | exact below_more (below_alloc _ _) (by simp) _
        | exact (below_more (below_alloc _ _) (by simp) _).drew
        | exact LL)
set_option maxRecDepth 100000 in
set_option maxHeartbeats 1000000 in
theorem i_cl3 (n m f r d s : Int) (k : ByteArray) (w : World) : Calls Tryz.prog 97 #[.agg #[.int .i64 3, .int .i64 n, .int .i64 m, .int .i64 f, .int .i64 r, .int .i64 d, .int .i64 s, .string k]] w fun e w' => e = .returned (.bool (clB 3 n m f r d s k)) ∧ Below w.heap.size w w' := by
  cases h1 : inB n 2 1999
  · go_enter Tryz.func97, Tryz.ntmps97
    go_wp2_with fail
    go_region
    all_goals (try go_wp2_with fail)
    refine (toB (i_styear _ _) h1).mono ?_
    rintro e w1 ⟨rfl, rfl⟩
    go_wp2_with fail
    all_goals
      go_ret
      first
        | (refine ⟨ret_bT ?_, ?_⟩; · (simp [clB, *]; done))
        | (refine ⟨ret_bF ?_, ?_⟩; · (simp_all [clB]; done))
    all_goals
      (first
        | exact below_more (below_alloc _ _) (by simp) _
        | exact (below_more (below_alloc _ _) (by simp) _).drew
        | exact LL)
  · cases h2 : inB s 0 6
    · go_enter Tryz.func97, Tryz.ntmps97
      go_wp2_with fail
      go_region
      all_goals (try go_wp2_with fail)
      refine (toB (i_styear _ _) h1).mono ?_
      rintro e w1 ⟨rfl, rfl⟩
      go_wp2_with fail
      refine (toB (i_style _ _) h2).mono ?_
      rintro e w1 ⟨rfl, rfl⟩
      go_wp2_with fail
      all_goals
        go_ret
        first
          | (refine ⟨ret_bT ?_, ?_⟩; · (simp [clB, *]; done))
          | (refine ⟨ret_bF ?_, ?_⟩; · (simp_all [clB]; done))
      all_goals
        (first
          | exact below_more (below_alloc _ _) (by simp) _
          | exact (below_more (below_alloc _ _) (by simp) _).drew
          | exact LL)
    · go_enter Tryz.func97, Tryz.ntmps97
      go_wp2_with fail
      go_region
      all_goals (try go_wp2_with fail)
      refine (toB (i_styear _ _) h1).mono ?_
      rintro e w1 ⟨rfl, rfl⟩
      go_wp2_with fail
      refine (toB (i_style _ _) h2).mono ?_
      rintro e w1 ⟨rfl, rfl⟩
      go_wp2_with fail
      all_goals
        go_ret
        first
          | (refine ⟨ret_bT ?_, ?_⟩; · (simp [clB, *]; done))
          | (refine ⟨ret_bF ?_, ?_⟩; · (simp_all [clB]; done))
      all_goals
        (first
          | exact below_more (below_alloc _ _) (by simp) _
          | exact (below_more (below_alloc _ _) (by simp) _).drew
          | exact LL)
set_option maxRecDepth 100000 in
set_option maxHeartbeats 1000000 in
theorem i_cl4 (n m f r d s : Int) (k : ByteArray) (w : World) : Calls Tryz.prog 97 #[.agg #[.int .i64 4, .int .i64 n, .int .i64 m, .int .i64 f, .int .i64 r, .int .i64 d, .int .i64 s, .string k]] w fun e w' => e = .returned (.bool (clB 4 n m f r d s k)) ∧ Below w.heap.size w w' := by
  cases h1 : inB n 1 15
  · go_enter Tryz.func97, Tryz.ntmps97
    go_wp2_with fail
    go_region
    all_goals (try go_wp2_with fail)
    refine (toB (i_in _ _ _ _) h1).mono ?_
    rintro e w1 ⟨rfl, rfl⟩
    go_wp2_with fail
    all_goals
      go_ret
      first
        | (refine ⟨ret_bT ?_, ?_⟩; · (simp [clB, *]; done))
        | (refine ⟨ret_bF ?_, ?_⟩; · (simp_all [clB]; done))
    all_goals
      (first
        | exact below_more (below_alloc _ _) (by simp) _
        | exact (below_more (below_alloc _ _) (by simp) _).drew
        | exact LL)
  · cases h2 : inB s 0 2
    · go_enter Tryz.func97, Tryz.ntmps97
      go_wp2_with fail
      go_region
      all_goals (try go_wp2_with fail)
      refine (toB (i_in _ _ _ _) h1).mono ?_
      rintro e w1 ⟨rfl, rfl⟩
      go_wp2_with fail
      refine (toB (i_kind _ _) h2).mono ?_
      rintro e w1 ⟨rfl, rfl⟩
      go_wp2_with fail
      all_goals
        go_ret
        first
          | (refine ⟨ret_bT ?_, ?_⟩; · (simp [clB, *]; done))
          | (refine ⟨ret_bF ?_, ?_⟩; · (simp_all [clB]; done))
      all_goals
        (first
          | exact below_more (below_alloc _ _) (by simp) _
          | exact (below_more (below_alloc _ _) (by simp) _).drew
          | exact LL)
    · go_enter Tryz.func97, Tryz.ntmps97
      go_wp2_with fail
      go_region
      all_goals (try go_wp2_with fail)
      refine (toB (i_in _ _ _ _) h1).mono ?_
      rintro e w1 ⟨rfl, rfl⟩
      go_wp2_with fail
      refine (toB (i_kind _ _) h2).mono ?_
      rintro e w1 ⟨rfl, rfl⟩
      go_wp2_with fail
      all_goals
        go_ret
        first
          | (refine ⟨ret_bT ?_, ?_⟩; · (simp [clB, *]; done))
          | (refine ⟨ret_bF ?_, ?_⟩; · (simp_all [clB]; done))
      all_goals
        (first
          | exact below_more (below_alloc _ _) (by simp) _
          | exact (below_more (below_alloc _ _) (by simp) _).drew
          | exact LL)
set_option maxRecDepth 100000 in
set_option maxHeartbeats 1000000 in
theorem i_cl5 (n m f r d s : Int) (k : ByteArray) (w : World) : Calls Tryz.prog 97 #[.agg #[.int .i64 5, .int .i64 n, .int .i64 m, .int .i64 f, .int .i64 r, .int .i64 d, .int .i64 s, .string k]] w fun e w' => e = .returned (.bool (clB 5 n m f r d s k)) ∧ Below w.heap.size w w' := by
  cases h1 : inB d 0 6
  · go_enter Tryz.func97, Tryz.ntmps97
    go_wp2_with fail
    refine (toB (i_in _ _ _ _) h1).mono ?_
    rintro e w1 ⟨rfl, rfl⟩
    go_wp2_with fail
    all_goals
      go_ret
      first
        | (refine ⟨ret_bT ?_, ?_⟩; · (simp [clB, *]; done))
        | (refine ⟨ret_bF ?_, ?_⟩; · (simp_all [clB]; done))
    all_goals
      (first
        | exact below_more (below_alloc _ _) (by simp) _
        | exact (below_more (below_alloc _ _) (by simp) _).drew
        | exact LL)
  · go_enter Tryz.func97, Tryz.ntmps97
    go_wp2_with fail
    refine (toB (i_in _ _ _ _) h1).mono ?_
    rintro e w1 ⟨rfl, rfl⟩
    go_wp2_with fail
    all_goals
      go_ret
      first
        | (refine ⟨ret_bT ?_, ?_⟩; · (simp [clB, *]; done))
        | (refine ⟨ret_bF ?_, ?_⟩; · (simp_all [clB]; done))
    all_goals
      (first
        | exact below_more (below_alloc _ _) (by simp) _
        | exact (below_more (below_alloc _ _) (by simp) _).drew
        | exact LL)
set_option maxRecDepth 100000 in
set_option maxHeartbeats 1000000 in
theorem i_cl0 (n m f r d s : Int) (k : ByteArray) (w : World) : Calls Tryz.prog 97 #[.agg #[.int .i64 0, .int .i64 n, .int .i64 m, .int .i64 f, .int .i64 r, .int .i64 d, .int .i64 s, .string k]] w fun e w' => e = .returned (.bool (clB 0 n m f r d s k)) ∧ Below w.heap.size w w' := by
  cases h1 : validB 4 m n
  all_goals
    go_enter Tryz.func97, Tryz.ntmps97
    go_wp2_with fail
    go_region
    all_goals (try go_wp2_with fail)
    refine (toBelowB (i_monthDay _ _ _) h1).mono ?_
    rintro e w1 ⟨rfl, hb⟩
    have hb2 := below_undrewC hb
    have LL := (below_more (below_alloc w (.cells #[.int .i64 0, .int .i64 n, .int .i64 m, .int .i64 f, .int .i64 r, .int .i64 d, .int .i64 s, .string k] 55)) (by simp) (.cells #[.int .i64 0, .int .i64 n, .int .i64 m, .int .i64 0, .int .i64 0, .int .i64 0, .int .i64 0, .string ⟨#[]⟩] 55)).trans (hb2.mono (by simp; omega))
    have BC := ((Blk.new w 55 #[.int .i64 0, .int .i64 n, .int .i64 m, .int .i64 f, .int .i64 r, .int .i64 d, .int .i64 s, .string k]).alloc (.cells #[.int .i64 0, .int .i64 n, .int .i64 m, .int .i64 0, .int .i64 0, .int .i64 0, .int .i64 0, .string ⟨#[]⟩] 55)).below hb2 (by simp; omega)
    have BU := (Blk.new' (w.alloc (.cells #[.int .i64 0, .int .i64 n, .int .i64 m, .int .i64 f, .int .i64 r, .int .i64 d, .int .i64 s, .string k] 55)) 55 #[.int .i64 0, .int .i64 n, .int .i64 m, .int .i64 0, .int .i64 0, .int .i64 0, .int .i64 0, .string ⟨#[]⟩] (w.heap.size + 1) (by simp)).below hb2 (by simp)
    have hz1 := BC.lt
    have hz2 := BU.lt
    have c0 : w1.cell? ⟨w.heap.size, 0, none⟩ = some (.int .i64 0) := BC.cell 0
    have c1 : w1.cell? ⟨w.heap.size, 1, none⟩ = some (.int .i64 n) := BC.cell 1
    have c2 : w1.cell? ⟨w.heap.size, 2, none⟩ = some (.int .i64 m) := BC.cell 2
    have c3 : w1.cell? ⟨w.heap.size, 3, none⟩ = some (.int .i64 f) := BC.cell 3
    have c4 : w1.cell? ⟨w.heap.size, 4, none⟩ = some (.int .i64 r) := BC.cell 4
    have c5 : w1.cell? ⟨w.heap.size, 5, none⟩ = some (.int .i64 d) := BC.cell 5
    have c6 : w1.cell? ⟨w.heap.size, 6, none⟩ = some (.int .i64 s) := BC.cell 6
    have c7 : w1.cell? ⟨w.heap.size, 7, none⟩ = some (.string k) := BC.cell 7
    have u0 : w1.cell? ⟨w.heap.size + 1, 0, none⟩ = some (.int .i64 0) := BU.cell 0
    have u1 : w1.cell? ⟨w.heap.size + 1, 1, none⟩ = some (.int .i64 n) := BU.cell 1
    have u2 : w1.cell? ⟨w.heap.size + 1, 2, none⟩ = some (.int .i64 m) := BU.cell 2
    have u3 : w1.cell? ⟨w.heap.size + 1, 3, none⟩ = some (.int .i64 0) := BU.cell 3
    have u4 : w1.cell? ⟨w.heap.size + 1, 4, none⟩ = some (.int .i64 0) := BU.cell 4
    have u5 : w1.cell? ⟨w.heap.size + 1, 5, none⟩ = some (.int .i64 0) := BU.cell 5
    have u6 : w1.cell? ⟨w.heap.size + 1, 6, none⟩ = some (.int .i64 0) := BU.cell 6
    have u7 : w1.cell? ⟨w.heap.size + 1, 7, none⟩ = some (.string ⟨#[]⟩) := BU.cell 7
    clear hb hb2 BC BU
    go_wp2_with fail
    all_goals
      go_ret
      first
        | (refine ⟨ret_bT ?_, ?_⟩; · (simp [clB, *]; done))
        | (refine ⟨ret_bF ?_, ?_⟩; · (simp_all [clB]; done))
    all_goals
      (first
        | exact below_more (below_alloc _ _) (by simp) _
        | exact (below_more (below_alloc _ _) (by simp) _).drew
        | exact LL)
set_option maxRecDepth 100000 in
set_option maxHeartbeats 1000000 in
theorem i_cl2 (n m f r d s : Int) (k : ByteArray) (w : World) (hs : k.size ≤ 9223372036854775807) : Calls Tryz.prog 97 #[.agg #[.int .i64 2, .int .i64 n, .int .i64 m, .int .i64 f, .int .i64 r, .int .i64 d, .int .i64 s, .string k]] w fun e w' => e = .returned (.bool (clB 2 n m f r d s k)) ∧ Below w.heap.size w w' := by
  cases h1 : inB n 1 99
  · go_enter Tryz.func97, Tryz.ntmps97
    go_wp2_with fail
    go_region
    all_goals (try go_wp2_with fail)
    refine (toB (i_in _ _ _ _) h1).mono ?_
    rintro e w1 ⟨rfl, rfl⟩
    go_wp2_with fail
    all_goals
      go_ret
      first
        | (refine ⟨ret_bT ?_, ?_⟩; · (simp [clB, *]; done))
        | (refine ⟨ret_bF ?_, ?_⟩; · (simp_all [clB]; done))
    all_goals
      (first
        | exact below_more (below_alloc _ _) (by simp) _
        | exact (below_more (below_alloc _ _) (by simp) _).drew
        | exact LL)
  · cases h2 : smallB k.data.toList 12
    all_goals
      go_enter Tryz.func97, Tryz.ntmps97
      go_wp2_with fail
      go_region
      all_goals (try go_wp2_with fail)
      refine (toB (i_in _ _ _ _) h1).mono ?_
      rintro e w1 ⟨rfl, rfl⟩
      go_wp2_with fail
      refine (toBelowB (i_small _ _ _ hs) h2).mono ?_
      rintro e w1 ⟨rfl, hb⟩
      have hb2 := below_undrewC hb
      have LL := (below_more (below_alloc w (.cells #[.int .i64 2, .int .i64 n, .int .i64 m, .int .i64 f, .int .i64 r, .int .i64 d, .int .i64 s, .string k] 55)) (by simp) (.cells #[.int .i64 2, .int .i64 n, .int .i64 0, .int .i64 0, .int .i64 0, .int .i64 0, .int .i64 0, .string k] 55)).trans (hb2.mono (by simp; omega))
      have BC := ((Blk.new w 55 #[.int .i64 2, .int .i64 n, .int .i64 m, .int .i64 f, .int .i64 r, .int .i64 d, .int .i64 s, .string k]).alloc (.cells #[.int .i64 2, .int .i64 n, .int .i64 0, .int .i64 0, .int .i64 0, .int .i64 0, .int .i64 0, .string k] 55)).below hb2 (by simp; omega)
      have BU := (Blk.new' (w.alloc (.cells #[.int .i64 2, .int .i64 n, .int .i64 m, .int .i64 f, .int .i64 r, .int .i64 d, .int .i64 s, .string k] 55)) 55 #[.int .i64 2, .int .i64 n, .int .i64 0, .int .i64 0, .int .i64 0, .int .i64 0, .int .i64 0, .string k] (w.heap.size + 1) (by simp)).below hb2 (by simp)
      have hz1 := BC.lt
      have hz2 := BU.lt
      have c0 : w1.cell? ⟨w.heap.size, 0, none⟩ = some (.int .i64 2) := BC.cell 0
      have c1 : w1.cell? ⟨w.heap.size, 1, none⟩ = some (.int .i64 n) := BC.cell 1
      have c2 : w1.cell? ⟨w.heap.size, 2, none⟩ = some (.int .i64 m) := BC.cell 2
      have c3 : w1.cell? ⟨w.heap.size, 3, none⟩ = some (.int .i64 f) := BC.cell 3
      have c4 : w1.cell? ⟨w.heap.size, 4, none⟩ = some (.int .i64 r) := BC.cell 4
      have c5 : w1.cell? ⟨w.heap.size, 5, none⟩ = some (.int .i64 d) := BC.cell 5
      have c6 : w1.cell? ⟨w.heap.size, 6, none⟩ = some (.int .i64 s) := BC.cell 6
      have c7 : w1.cell? ⟨w.heap.size, 7, none⟩ = some (.string k) := BC.cell 7
      have u0 : w1.cell? ⟨w.heap.size + 1, 0, none⟩ = some (.int .i64 2) := BU.cell 0
      have u1 : w1.cell? ⟨w.heap.size + 1, 1, none⟩ = some (.int .i64 n) := BU.cell 1
      have u2 : w1.cell? ⟨w.heap.size + 1, 2, none⟩ = some (.int .i64 0) := BU.cell 2
      have u3 : w1.cell? ⟨w.heap.size + 1, 3, none⟩ = some (.int .i64 0) := BU.cell 3
      have u4 : w1.cell? ⟨w.heap.size + 1, 4, none⟩ = some (.int .i64 0) := BU.cell 4
      have u5 : w1.cell? ⟨w.heap.size + 1, 5, none⟩ = some (.int .i64 0) := BU.cell 5
      have u6 : w1.cell? ⟨w.heap.size + 1, 6, none⟩ = some (.int .i64 0) := BU.cell 6
      have u7 : w1.cell? ⟨w.heap.size + 1, 7, none⟩ = some (.string k) := BU.cell 7
      clear hb hb2 BC BU
      go_wp2_with fail
      all_goals
        go_ret
        first
          | (refine ⟨ret_bT ?_, ?_⟩; · (simp [clB, *]; done))
          | (refine ⟨ret_bF ?_, ?_⟩; · (simp_all [clB]; done))
      all_goals
        (first
          | exact below_more (below_alloc _ _) (by simp) _
          | exact (below_more (below_alloc _ _) (by simp) _).drew
          | exact LL)
set_option maxRecDepth 100000 in
set_option maxHeartbeats 1000000 in
theorem i_clE (q : Int) (h0 : ¬ q = 0) (h1 : ¬ q = 1) (h2 : ¬ q = 2) (h3 : ¬ q = 3) (h4 : ¬ q = 4) (h5 : ¬ q = 5) (n m f r d s : Int) (k : ByteArray) (w : World) : Calls Tryz.prog 97 #[.agg #[.int .i64 q, .int .i64 n, .int .i64 m, .int .i64 f, .int .i64 r, .int .i64 d, .int .i64 s, .string k]] w fun e w' => e = .returned (.bool (clB q n m f r d s k)) ∧ Below w.heap.size w w' := by
  go_enter Tryz.func97, Tryz.ntmps97
  go_wp2_with fail
  all_goals
    go_ret
    first
      | (refine ⟨ret_bT ?_, ?_⟩; · (simp [clB, *]; done))
      | (refine ⟨ret_bF ?_, ?_⟩; · (simp_all [clB]; done))
  all_goals
    (first
      | exact below_more (below_alloc _ _) (by simp) _
      | exact (below_more (below_alloc _ _) (by simp) _).drew
      | exact LL)
end Go.Proofs.YtmpgokijlikddaaGreatDoor
