/- The lengths of numerals. Conditions: the number is 1 .. 3999. -/
import Derived.Test.YtmpgokijlikddaaGreatDoorNumer
namespace Go.Proofs.YtmpgokijlikddaaGreatDoor
theorem formL_len (n : Int) (old : Bool) (h : 1 ≤ n) (h1 : n ≤ 3999) : (formL n old).length ≤ 18 := by
  have l1 := digL_len (n / 100 % 10) 99 100 109 old (by omega)
  have l2 := digL_len (n / 10 % 10) 120 108 99 old (by omega)
  have l3 := digL_len (n % 10) 105 118 120 old (by omega)
  unfold formL
  simp only [List.length_append, msL_len]
  omega
theorem digT_pos (d : Int) (a b : UInt8) (h : 0 < d) : 0 < (digT d a b).length := by unfold digT; split <;> simp; omega
theorem digL_pos (d : Int) (a b c : UInt8) (old : Bool) (h : 0 < d) : 0 < (digL d a b c old).length := by
  unfold digL
  split
  · simp
  · split
    · simp
    · exact digT_pos d a b h
theorem formL_pos (n : Int) (old : Bool) (h : 1 ≤ n) : 0 < (formL n old).length := by
  unfold formL
  simp only [List.length_append, msL_len]
  by_cases h0 : 0 < n / 1000
  · omega
  · by_cases h1 : 0 < n / 100 % 10
    · have := digL_pos (n / 100 % 10) 99 100 109 old h1; omega
    · by_cases h2 : 0 < n / 10 % 10
      · have := digL_pos (n / 10 % 10) 120 108 99 old h2; omega
      · have := digL_pos (n % 10) 105 118 120 old (by omega); omega
end Go.Proofs.YtmpgokijlikddaaGreatDoor
