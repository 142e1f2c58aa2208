/- The names of the months, the weekdays and the styles: the program's and the reference's functions return what the plain functions say. Condition, where the program splits a text: that the library's variable MaxLen holds an int. -/
import Derived.Test.YtmpgokijlikddaaGreatDoorStrs
import Derived.Test.YtmpgokijlikddaaGreatDoorMax
import Derived.Test.YtmpgokijlikddaaGreatDoorArith
namespace Go.Proofs.YtmpgokijlikddaaGreatDoor
open Go.RowKit
theorem i_split (s : ByteArray) (l : List (List UInt8)) (w : World) (hm : MaxOk w) (hs : s.size < 4294967281) (hl : (Lib.splitB ⟨#[32]⟩ 0 (Lib.countB s ⟨#[32]⟩) s) = l.map (fun x => ⟨x.toArray⟩)) (hn : Lib.countB s ⟨#[32]⟩ + 1 = l.length) (hmx : l.length ≤ maxLen) :
    Calls Tryz.prog 104 #[.string s, .string ⟨#[32]⟩] w fun e w' => ∃ v, e = .returned v ∧ OwnS w' w.heap.size v l ∧ Below w.heap.size w w' := by
  obtain ⟨m, hm⟩ := hm
  refine (Tryz.strings_Split s ⟨#[32]⟩ m w hs hm (by decide)).mono fun e w' ⟨he, hw⟩ => ⟨_, he, ?_, ?_⟩
  · subst hw
    rw [hn]
    exact OwnS.lit w _ _ l (by rw [hl, List.map_map]; rfl) (Nat.le_refl _) hmx
  · subst hw; exact below_alloc _ _
def nameAt (l : List (List UInt8)) (low high off n : Int) : List UInt8 := if inB n low high = true then l.getD (n - off).toNat [] else []
def monthsL : List (List UInt8) := [[106, 97, 110, 117, 97, 114, 121], [102, 101, 98, 114, 117, 97, 114, 121], [109, 97, 114, 99, 104], [97, 112, 114, 105, 108], [109, 97, 121], [106, 117, 110, 101], [106, 117, 108, 121], [97, 117, 103, 117, 115, 116], [115, 101, 112, 116, 101, 109, 98, 101, 114], [111, 99, 116, 111, 98, 101, 114], [110, 111, 118, 101, 109, 98, 101, 114], [100, 101, 99, 101, 109, 98, 101, 114]]
def weekdaysL : List (List UInt8) := [[109, 111, 110, 100, 97, 121], [116, 117, 101, 115, 100, 97, 121], [119, 101, 100, 110, 101, 115, 100, 97, 121], [116, 104, 117, 114, 115, 100, 97, 121], [102, 114, 105, 100, 97, 121], [115, 97, 116, 117, 114, 100, 97, 121], [115, 117, 110, 100, 97, 121]]
def stylesL : List (List UInt8) := [[106, 97, 110, 117, 97, 114, 121], [109, 97, 114, 99, 104], [108, 97, 100, 121], [112, 105, 115, 97], [101, 97, 115, 116, 101, 114], [99, 104, 114, 105, 115, 116, 109, 97, 115], [115, 101, 112, 116, 101, 109, 98, 101, 114]]
end Go.Proofs.YtmpgokijlikddaaGreatDoor
