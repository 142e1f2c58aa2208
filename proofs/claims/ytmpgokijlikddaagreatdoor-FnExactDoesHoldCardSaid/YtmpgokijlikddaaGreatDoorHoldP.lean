/- On which days a clause holds: plain laws. No condition. -/
import Derived.Test.YtmpgokijlikddaaGreatDoorFeast
import Derived.Test.YtmpgokijlikddaaGreatDoorYearOn
import Derived.Test.YtmpgokijlikddaaGreatDoorIndOn
import Derived.Test.YtmpgokijlikddaaGreatDoorRegF
import Derived.Test.YtmpgokijlikddaaGreatDoorRegs
import Derived.Test.YtmpgokijlikddaaGreatDoorCl
namespace Go.Proofs.YtmpgokijlikddaaGreatDoor
open Go.RowKit
/-- some year near the day's has the day as its related day -/
def feP (k : Nat) (r d n : Int) : Prop := ∃ y : Int, max 1 (yr n - 1) ≤ y ∧ y ≤ min 2000 (yr n + 1) ∧ reF k r d y = n
/-- some reign of the king tells the day's year so -/
def rgP (rs : List RG) (x : List UInt8) (v n : Int) : Prop := ∃ j, j < rs.length ∧ (rs.getD j rg0).1 = x ∧ inB n (rs.getD j rg0).2.1 (rs.getD j rg0).2.2 = true ∧ ky (rs.getD j rg0).2.1 n = v
/-- a clause holds on a day -/
def hoP (rs : List RG) (q v m f r d s : Int) (k : ByteArray) (n : Int) : Prop :=
  if q = 0 then mo n = m ∧ dy n = v else if q = 1 then feP f.toNat r d n else if q = 2 then rgP rs k.data.toList v n else if q = 3 then yrOn s n = (v, true) else if q = 4 then indOn s n = v else (n + 5) % 7 = d
theorem cl_kind {q n m f r d s : Int} {k : ByteArray} (h : clB q n m f r d s k = true) : q = 0 ∨ q = 1 ∨ q = 2 ∨ q = 3 ∨ q = 4 ∨ q = 5 := by
  by_cases h0 : q = 0
  · exact .inl h0
  · by_cases h1 : q = 1
    · exact .inr (.inl h1)
    · by_cases h2 : q = 2
      · exact .inr (.inr (.inl h2))
      · by_cases h3 : q = 3
        · exact .inr (.inr (.inr (.inl h3)))
        · by_cases h4 : q = 4
          · exact .inr (.inr (.inr (.inr (.inl h4))))
          · by_cases h5 : q = 5
            · exact .inr (.inr (.inr (.inr (.inr h5))))
            · unfold clB at h
              rw [if_neg h0, if_neg h1, if_neg h2, if_neg h3, if_neg h4, if_neg h5] at h
              cases h
theorem cl_1 {n m f r d s : Int} {k : ByteArray} (h : clB 1 n m f r d s k = true) : (0 ≤ f ∧ f ≤ 19) ∧ (0 ≤ d ∧ d ≤ 6) := by
  have e : clB 1 n m f r d s k = (relB f r d && decide (n = 0 ∧ m = 0 ∧ s = 0 ∧ k.toList = [])) := rfl
  rw [e] at h
  unfold relB relB2 at h
  simp only [Bool.and_eq_true] at h
  exact ⟨inB_iff.1 h.1.1, inB_iff.1 h.1.2.2.1⟩
theorem cl_3 {n m f r d s : Int} {k : ByteArray} (h : clB 3 n m f r d s k = true) : inB s 0 6 = true := by
  have e : clB 3 n m f r d s k = ((inB n 2 1999 && inB s 0 6) && decide (m = 0 ∧ f = 0 ∧ r = 0 ∧ d = 0 ∧ k.toList = [])) := rfl
  rw [e] at h
  simp only [Bool.and_eq_true] at h
  exact h.1.2
theorem cl_4 {n m f r d s : Int} {k : ByteArray} (h : clB 4 n m f r d s k = true) : inB s 0 2 = true := by
  have e : clB 4 n m f r d s k = ((inB n 1 15 && inB s 0 2) && decide (m = 0 ∧ f = 0 ∧ r = 0 ∧ d = 0 ∧ k.toList = [])) := rfl
  rw [e] at h
  simp only [Bool.and_eq_true] at h
  exact h.1.2
theorem are_open {rs : List RG} (h : areB rs = true) {j : Nat} (hj : j < rs.length) : 0 ≤ (rs.getD j rg0).2.1 ∧ (rs.getD j rg0).2.1 ≤ (rs.getD j rg0).2.2 ∧ (rs.getD j rg0).2.2 ≤ 730499 := by
  unfold areB at h
  simp only [Bool.and_eq_true] at h
  have h1 := List.all_eq_true.1 h.1 j (List.mem_range.2 hj)
  unfold okAt at h1
  simp only [Bool.and_eq_true] at h1
  exact reg_open h1.1
end Go.Proofs.YtmpgokijlikddaaGreatDoor
