/- Days and years of a style, plainly: a year's length, the days with a date. No program is in sight. -/
import Derived.Test.YtffpaedhdjnbjaaDays0
import Derived.Test.YtffpaedhdjnbjaaYearOn
namespace Go.Proofs.Ytffpaedhdjnbjaa
open Go.RowKit
theorem easter_eq (y : Int) : easter y = nyear y + lp y + eS y - 34 := by
  have := eS_bd y
  have h : eS y / 31 = 3 ∨ eS y / 31 = 4 := by omega
  unfold easter num
  rcases h with h | h
  · rw [h, cum3]; omega
  · rw [h, cum4]; omega
theorem beg_diff (s y : Int) : 329 ≤ beg s (y + 1) - beg s y ∧ beg s (y + 1) - beg s y ≤ 401 := by
  have e1 := nyear_succ y
  have e0 := nyear_pred y
  have a := lp_01 y
  have b := lp_01 (y + 1)
  have c := lp_01 (y - 1)
  have d := eS_bd y
  have e := eS_bd (y + 1)
  unfold beg
  simp only [easter_eq, num, Int.add_sub_cancel, cum3, cum9, cum12, cum_one]
  repeat' split
  all_goals omega
theorem cum_near (a b m : Int) : cum a m ≤ cum b m + 1 := by
  have := lp_01 a
  have := lp_01 b
  by_cases h1 : m ≤ 1
  · simp [cum, h1]
  · by_cases h2 : m = 2
    · subst h2
      simp [cum]
    · unfold cum
      rw [if_neg h1, if_neg h2, if_neg h1, if_neg h2, Int.add_right_comm (lp b)]
      exact Int.add_le_add_right (by omega) _
theorem yrOnF_hit {s d y : Int} (hs : inB s 0 6 = true) (hy : inB y 2 1999 = true) (hd : inB d (beg s y) (beg s (y + 1) - 1) = true) : yrOnF s d = (y, 0) := by
  obtain ⟨y0, y1⟩ := inB_iff.1 hy
  obtain ⟨d0, d1⟩ := inB_iff.1 hd
  obtain ⟨p0, p1, p2, p3, p4, p5⟩ := span_days s y y0 y1
  have q1 := yr_mono _ _ d0
  have q2 := yr_mono _ _ d1
  have b1 := beg_mono s (y - 1)
  have b2 := beg_mono s (y - 2)
  rw [show y - 1 + 1 = y from by omega] at b1
  rw [show y - 2 + 1 = y - 1 from by omega] at b2
  have hr : inB d 0 730499 = true := inB_iff.2 ⟨by omega, by omega⟩
  have n1 : inB d (beg s (y - 1)) (beg s (y - 1 + 1) - 1) = false := by
    rw [show y - 1 + 1 = y from by omega]
    unfold inB; simp; omega
  have n2 : inB d (beg s (y - 2)) (beg s (y - 2 + 1) - 1) = false := by
    rw [show y - 2 + 1 = y - 1 from by omega]
    unfold inB; simp; omega
  have hyy : yrOn s d = (y, true) := by
    unfold yrOn
    have h3 : yr d = y - 1 ∨ yr d = y ∨ yr d = y + 1 := by omega
    rcases h3 with h | h | h
    · rw [h, show y - 1 - 1 = y - 2 from by omega, ysc_no2 n2, show y - 2 + 1 = y - 1 from by omega, ysc_no2 n1, show y - 1 + 1 = y from by omega, ysc_hit hy hd]
    · rw [h, ysc_no2 n1, show y - 1 + 1 = y from by omega, ysc_hit hy hd]
    · rw [h, show y + 1 - 1 = y from by omega, ysc_hit hy hd]
  unfold yrOnF
  rw [hyy, hs, hr]
  rfl
theorem mem_dwF {m d f t y z : Int} (h : z ∈ dwF m d f t y) : validB y m d = true ∧ z = num y m d ∧ inB z f t = true := by
  unfold dwF at h
  split at h
  · rename_i hh
    simp at h
    subst h
    simp only [Bool.and_eq_true] at hh
    exact ⟨hh.1, rfl, hh.2⟩
  · simp at h
theorem mem_dlsd {m d f t z : Int} {a : Int} {k : Nat} (h : z ∈ dls (dwF m d f t) a k) : ∃ y, z ∈ dwF m d f t y := by
  induction k with
  | zero => simp [dls] at h
  | succ k ih =>
    simp only [dls, List.mem_append] at h
    rcases h with h | h
    · exact ih h
    · exact ⟨_, h⟩
theorem style_day {s y m d z : Int} (h : z ∈ (dwsF s y m d).1) : inB z 0 730499 = true ∧ mo z = m ∧ dy z = d ∧ yrOnF s z = (y, 0) := by
  unfold dwsF at h
  split at h
  · rename_i hh
    simp only [Bool.and_eq_true] at hh
    obtain ⟨⟨hs, hy⟩, _⟩ := hh
    obtain ⟨y0, y1⟩ := inB_iff.1 hy
    obtain ⟨p0, p1, p2, _⟩ := span_days s y y0 y1
    obtain ⟨yy, hyy⟩ := mem_dlsd h
    obtain ⟨hv, rfl, hi⟩ := mem_dwF hyy
    obtain ⟨v0, v1, v2, v3, v4, v5⟩ := validB_iff.1 hv
    obtain ⟨i0, i1⟩ := inB_iff.1 hi
    exact ⟨inB_iff.2 ⟨by omega, by omega⟩, mo_num yy m d ⟨v2, v3⟩ ⟨v4, v5⟩, dy_num yy m d ⟨v2, v3⟩ ⟨v4, v5⟩, yrOnF_hit hs hy hi⟩
  · simp at h
theorem dwsF_two (s y m d : Int) : (dwsF s y m d).1.length ≤ 2 := by
  unfold dwsF
  split
  · unfold dws
    have a := dwF_len m d (beg s y) (beg s (y + 1) - 1) (y - 1)
    have b := dwF_len m d (beg s y) (beg s (y + 1) - 1) (y - 1 + 1)
    have c := dwF_len m d (beg s y) (beg s (y + 1) - 1) (y - 1 + 2)
    have e : (dls (dwF m d (beg s y) (beg s (y + 1) - 1)) (y - 1) 3).length = (dwF m d (beg s y) (beg s (y + 1) - 1) (y - 1)).length + (dwF m d (beg s y) (beg s (y + 1) - 1) (y - 1 + 1)).length + (dwF m d (beg s y) (beg s (y + 1) - 1) (y - 1 + 2)).length := by
      simp [dls]; omega
    show (dls (dwF m d (beg s y) (beg s (y + 1) - 1)) (y - 1) 3).length ≤ 2
    rw [e]
    by_cases h1 : dwF m d (beg s y) (beg s (y + 1) - 1) (y - 1) = []
    · rw [h1]; simp only [List.length_nil]; omega
    · by_cases h2 : dwF m d (beg s y) (beg s (y + 1) - 1) (y - 1 + 2) = []
      · rw [h2]; simp only [List.length_nil]; omega
      · exfalso
        obtain ⟨z1, hz1⟩ := List.exists_mem_of_ne_nil _ h1
        obtain ⟨z2, hz2⟩ := List.exists_mem_of_ne_nil _ h2
        obtain ⟨_, rfl, i1⟩ := mem_dwF hz1
        obtain ⟨_, rfl, i2⟩ := mem_dwF hz2
        obtain ⟨a0, a1⟩ := inB_iff.1 i1
        obtain ⟨b0, b1⟩ := inB_iff.1 i2
        have hd := beg_diff s y
        have g1 := nyear_ge y
        have g2 := nyear_ge (y + 1)
        rw [show y + 1 - 1 = y from by omega] at g2
        have g3 := cum_near (y - 1) (y - 1 + 2) m
        unfold num at a0 b1
        rw [show y - 1 + 2 = y + 1 from by omega] at b1 g3
        omega
  · simp
end Go.Proofs.Ytffpaedhdjnbjaa
