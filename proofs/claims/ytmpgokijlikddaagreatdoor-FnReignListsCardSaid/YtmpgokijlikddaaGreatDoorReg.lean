/- Reigns: the program's and the reference's tests of a reign return what the plain function says. Condition: a length that a machine can hold. -/
import Derived.Test.YtmpgokijlikddaaGreatDoorSmall
import Derived.Test.YtmpgokijlikddaaGreatDoorRegP
import Derived.Test.YtmpgokijlikddaaGreatDoorBlk
namespace Go.Proofs.YtmpgokijlikddaaGreatDoor
open Go.RowKit
def regB (x : List UInt8) (f t : Int) : Bool := smallB x 12 && (inB f 0 730499 && (inB t 0 730499 && decide (f ≤ t)))
theorem regB_iff {x : List UInt8} {f t : Int} : regB x f t = true ↔ smallB x 12 = true ∧ inB f 0 730499 = true ∧ inB t 0 730499 = true ∧ f ≤ t := by
  unfold regB; simp
theorem s_reg (s : ByteArray) (f t : Int) (w : World) (hs : s.size ≤ 9223372036854775807) : Calls Tryz.prog 89 #[.agg #[.string s, .int .i64 f, .int .i64 t]] w fun e w' => e = .returned (.bool (regB s.data.toList f t)) ∧ Below w.heap.size w w' := by
  by_cases h1 : smallB s.data.toList 12 = true
  · by_cases h2 : inB f 0 730499 = true
    · by_cases h3 : inB t 0 730499 = true
      · by_cases h4 : f ≤ t
        · have hF : regB s.data.toList f t = true := by unfold regB; rw [h1, h2, h3]; simp [h4]
          have HF := Lib.hid hF; clear hF
          have hd : decide (f ≤ t) = true := by simp [h4]
          go_enter Tryz.func89, Tryz.ntmps89
          go_wp2_with fail
          refine (toB (s_small _ _ _ hs) h1).mono ?_
          rintro e w1 ⟨rfl, rfl⟩
          go_wp2_with fail
          refine (toB (s_day _ _) h2).mono ?_
          rintro e w2 ⟨rfl, rfl⟩
          go_wp2_with fail
          refine (toB (s_day _ _) h3).mono ?_
          rintro e w2 ⟨rfl, rfl⟩
          go_wp2_with fail
          go_ret
          exact ⟨by rw [HF.out]; rfl, below_alloc _ _⟩
        · have hF : regB s.data.toList f t = false := by unfold regB; simp [h4]
          have HF := Lib.hid hF; clear hF
          have hd : decide (f ≤ t) = false := by simp [h4]
          go_enter Tryz.func89, Tryz.ntmps89
          go_wp2_with fail
          refine (toB (s_small _ _ _ hs) h1).mono ?_
          rintro e w1 ⟨rfl, rfl⟩
          go_wp2_with fail
          refine (toB (s_day _ _) h2).mono ?_
          rintro e w2 ⟨rfl, rfl⟩
          go_wp2_with fail
          refine (toB (s_day _ _) h3).mono ?_
          rintro e w2 ⟨rfl, rfl⟩
          go_wp2_with fail
          go_ret
          exact ⟨by rw [HF.out]; rfl, below_alloc _ _⟩
      · have h3 : inB t 0 730499 = false := by simpa using h3
        have hF : regB s.data.toList f t = false := by unfold regB; rw [h1, h2, h3]; rfl
        have HF := Lib.hid hF; clear hF
        go_enter Tryz.func89, Tryz.ntmps89
        go_wp2_with fail
        refine (toB (s_small _ _ _ hs) h1).mono ?_
        rintro e w1 ⟨rfl, rfl⟩
        go_wp2_with fail
        refine (toB (s_day _ _) h2).mono ?_
        rintro e w2 ⟨rfl, rfl⟩
        go_wp2_with fail
        refine (toB (s_day _ _) h3).mono ?_
        rintro e w2 ⟨rfl, rfl⟩
        go_wp2_with fail
        go_ret
        exact ⟨by rw [HF.out]; rfl, below_alloc _ _⟩
    · have h2 : inB f 0 730499 = false := by simpa using h2
      have hF : regB s.data.toList f t = false := by unfold regB; rw [h1, h2]; rfl
      have HF := Lib.hid hF; clear hF
      go_enter Tryz.func89, Tryz.ntmps89
      go_wp2_with fail
      refine (toB (s_small _ _ _ hs) h1).mono ?_
      rintro e w1 ⟨rfl, rfl⟩
      go_wp2_with fail
      refine (toB (s_day _ _) h2).mono ?_
      rintro e w2 ⟨rfl, rfl⟩
      go_wp2_with fail
      go_ret
      exact ⟨by rw [HF.out]; rfl, below_alloc _ _⟩
  · have h1 : smallB s.data.toList 12 = false := by simpa using h1
    have hF : regB s.data.toList f t = false := by unfold regB; rw [h1]; rfl
    have HF := Lib.hid hF; clear hF
    go_enter Tryz.func89, Tryz.ntmps89
    go_wp2_with fail
    refine (toB (s_small _ _ _ hs) h1).mono ?_
    rintro e w1 ⟨rfl, rfl⟩
    go_wp2_with fail
    go_ret
    exact ⟨by rw [HF.out]; rfl, below_alloc _ _⟩
theorem i_reg (s : ByteArray) (f t : Int) (w : World) (hs : s.size ≤ 9223372036854775807) : Calls Tryz.prog 88 #[.agg #[.string s, .int .i64 f, .int .i64 t]] w fun e w' => e = .returned (.bool (regB s.data.toList f t)) ∧ Below w.heap.size w w' := by
  by_cases h1 : smallB s.data.toList 12 = true
  · by_cases h2 : inB f 0 730499 = true
    · by_cases h3 : inB t 0 730499 = true
      · by_cases h4 : f ≤ t
        · have hF : regB s.data.toList f t = true := by unfold regB; rw [h1, h2, h3]; simp [h4]
          have HF := Lib.hid hF; clear hF
          have hd : decide (f ≤ t) = true := by simp [h4]
          go_enter Tryz.func88, Tryz.ntmps88
          go_wp2_with fail
          refine (toBelowB (i_small _ _ _ hs) h1).mono ?_
          rintro e w1 ⟨rfl, hb⟩
          obtain ⟨hc, _⟩ := bcell hb
          have hz : w.heap.size < w1.heap.size := by have := hb.size; simp at this; omega
          have c1 := (hc w.heap.size 1 (by simp)).trans ((Blk.new w 90 #[.string s, .int .i64 f, .int .i64 t]).cell 1)
          have c2 := (hc w.heap.size 2 (by simp)).trans ((Blk.new w 90 #[.string s, .int .i64 f, .int .i64 t]).cell 2)
          clear hc
          go_wp2_with fail
          refine (toB (i_day _ _) h2).mono ?_
          rintro e w2 ⟨rfl, rfl⟩
          go_wp2_with fail
          refine (toB (i_day _ _) h3).mono ?_
          rintro e w2 ⟨rfl, rfl⟩
          go_wp2_with fail
          go_ret
          exact ⟨by rw [HF.out]; rfl, below_step (below_alloc _ _) hb⟩
        · have hF : regB s.data.toList f t = false := by unfold regB; simp [h4]
          have HF := Lib.hid hF; clear hF
          have hd : decide (f ≤ t) = false := by simp [h4]
          go_enter Tryz.func88, Tryz.ntmps88
          go_wp2_with fail
          refine (toBelowB (i_small _ _ _ hs) h1).mono ?_
          rintro e w1 ⟨rfl, hb⟩
          obtain ⟨hc, _⟩ := bcell hb
          have hz : w.heap.size < w1.heap.size := by have := hb.size; simp at this; omega
          have c1 := (hc w.heap.size 1 (by simp)).trans ((Blk.new w 90 #[.string s, .int .i64 f, .int .i64 t]).cell 1)
          have c2 := (hc w.heap.size 2 (by simp)).trans ((Blk.new w 90 #[.string s, .int .i64 f, .int .i64 t]).cell 2)
          clear hc
          go_wp2_with fail
          refine (toB (i_day _ _) h2).mono ?_
          rintro e w2 ⟨rfl, rfl⟩
          go_wp2_with fail
          refine (toB (i_day _ _) h3).mono ?_
          rintro e w2 ⟨rfl, rfl⟩
          go_wp2_with fail
          go_ret
          exact ⟨by rw [HF.out]; rfl, below_step (below_alloc _ _) hb⟩
      · have h3 : inB t 0 730499 = false := by simpa using h3
        have hF : regB s.data.toList f t = false := by unfold regB; rw [h1, h2, h3]; rfl
        have HF := Lib.hid hF; clear hF
        go_enter Tryz.func88, Tryz.ntmps88
        go_wp2_with fail
        refine (toBelowB (i_small _ _ _ hs) h1).mono ?_
        rintro e w1 ⟨rfl, hb⟩
        obtain ⟨hc, _⟩ := bcell hb
        have hz : w.heap.size < w1.heap.size := by have := hb.size; simp at this; omega
        have c1 := (hc w.heap.size 1 (by simp)).trans ((Blk.new w 90 #[.string s, .int .i64 f, .int .i64 t]).cell 1)
        have c2 := (hc w.heap.size 2 (by simp)).trans ((Blk.new w 90 #[.string s, .int .i64 f, .int .i64 t]).cell 2)
        clear hc
        go_wp2_with fail
        refine (toB (i_day _ _) h2).mono ?_
        rintro e w2 ⟨rfl, rfl⟩
        go_wp2_with fail
        refine (toB (i_day _ _) h3).mono ?_
        rintro e w2 ⟨rfl, rfl⟩
        go_wp2_with fail
        go_ret
        exact ⟨by rw [HF.out]; rfl, below_step (below_alloc _ _) hb⟩
    · have h2 : inB f 0 730499 = false := by simpa using h2
      have hF : regB s.data.toList f t = false := by unfold regB; rw [h1, h2]; rfl
      have HF := Lib.hid hF; clear hF
      go_enter Tryz.func88, Tryz.ntmps88
      go_wp2_with fail
      refine (toBelowB (i_small _ _ _ hs) h1).mono ?_
      rintro e w1 ⟨rfl, hb⟩
      obtain ⟨hc, _⟩ := bcell hb
      have hz : w.heap.size < w1.heap.size := by have := hb.size; simp at this; omega
      have c1 := (hc w.heap.size 1 (by simp)).trans ((Blk.new w 90 #[.string s, .int .i64 f, .int .i64 t]).cell 1)
      have c2 := (hc w.heap.size 2 (by simp)).trans ((Blk.new w 90 #[.string s, .int .i64 f, .int .i64 t]).cell 2)
      clear hc
      go_wp2_with fail
      refine (toB (i_day _ _) h2).mono ?_
      rintro e w2 ⟨rfl, rfl⟩
      go_wp2_with fail
      go_ret
      exact ⟨by rw [HF.out]; rfl, below_step (below_alloc _ _) hb⟩
  · have h1 : smallB s.data.toList 12 = false := by simpa using h1
    have hF : regB s.data.toList f t = false := by unfold regB; rw [h1]; rfl
    have HF := Lib.hid hF; clear hF
    go_enter Tryz.func88, Tryz.ntmps88
    go_wp2_with fail
    refine (toBelowB (i_small _ _ _ hs) h1).mono ?_
    rintro e w1 ⟨rfl, hb⟩
    obtain ⟨hc, _⟩ := bcell hb
    have hz : w.heap.size < w1.heap.size := by have := hb.size; simp at this; omega
    clear hc
    go_wp2_with fail
    go_ret
    exact ⟨by rw [HF.out]; rfl, below_step (below_alloc _ _) hb⟩
end Go.Proofs.YtmpgokijlikddaaGreatDoor
