/- Lists of texts as the laws hand them on: their size, their copy, compared. Conditions: lengths that a machine can hold; how the list lies. -/
import Derived.Test.YtmpgokijlikddaaGreatDoorMem
import Derived.Test.YtmpgokijlikddaaGreatDoorStrs
import Derived.Laws.MakeOwn
namespace Go.Proofs.YtmpgokijlikddaaGreatDoor
open Go.RowKit
theorem OwnS.of_blk {w : World} {base g : Nat} {cs : Array Value} {xs : List (List UInt8)} (hB : Blk w g 9 cs) (hb : base ≤ g) (hs : cs.size = xs.length) (hm : xs.length ≤ 1048577) (hc : ∀ i, i < xs.length → cs[i]? = some (sv (xs.getD i []))) :
    OwnS w base (.slice (some ⟨g, 0, none⟩) xs.length xs.length) xs := by
  refine ⟨by simp, .inr ⟨g, xs.length, cs, rfl, hb, hB, Nat.le_refl _, by unfold maxLen; omega, by omega, ?_⟩⟩
  rw [Nat.mul_one]
  apply List.ext_getElem?
  intro i
  by_cases hi : i < xs.length
  · rw [List.getElem?_take, if_pos hi, Array.getElem?_toList, hc i hi]
    simp [hi]
  · rw [List.getElem?_eq_none (by simp; omega), List.getElem?_eq_none (by simp; omega)]
/-- a block that holds the first k of the texts -/
def PutS (w : World) (g n k : Nat) (xs : List (List UInt8)) : Prop := ∃ cs, Blk w g 9 cs ∧ cs.size = n ∧ ∀ i, i < k → cs[i]? = some (sv (xs.getD i []))
theorem PutS.step {w : World} {g n k : Nat} {xs : List (List UInt8)} (h : PutS w g n k xs) (hk : k < n) : PutS (w.setCell ⟨g, k, none⟩ (.string ⟨(xs.getD k []).toArray⟩)) g n (k + 1) xs := by
  obtain ⟨cs, hB, hs, hc⟩ := h
  refine ⟨_, hB.set_ _ _, by simp [hs], fun i hi => ?_⟩
  simp only [Array.getElem?_setIfInBounds, hs]
  by_cases he : i = k
  · subst he
    rw [if_pos rfl, if_pos hk]; rfl
  · rw [if_neg (by omega)]; exact hc i (by omega)
def tl (xs : List (List UInt8)) (k : Nat) : Nat := ((xs.take k).map List.length).sum
theorem tl_succ (xs : List (List UInt8)) (k : Nat) (h : k < xs.length) : tl xs (k + 1) = tl xs k + (xs.getD k []).length := by
  unfold tl; rw [List.take_succ_eq_append_getElem h, List.map_append, List.sum_append]; simp [h]
theorem tl_le (xs : List (List UInt8)) : ∀ k i, i < k → k ≤ xs.length → (xs.getD i []).length ≤ tl xs k
  | 0, i, h, _ => by omega
  | k + 1, i, h, hk => by
    rw [tl_succ xs k (by omega)]
    by_cases he : i = k
    · subst he; omega
    · have := tl_le xs k i (by omega) (by omega); omega
end Go.Proofs.YtmpgokijlikddaaGreatDoor
