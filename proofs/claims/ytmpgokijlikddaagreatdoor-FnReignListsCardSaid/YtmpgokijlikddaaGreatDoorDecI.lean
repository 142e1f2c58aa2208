/- A number in decimal, by the program (strconv.FormatInt). Conditions: a number below 10000000000; the table of powers as it was laid. -/
import Derived.Test.YtmpgokijlikddaaGreatDoorKit
import Derived.Test.YtmpgokijlikddaaGreatDoorShelf
import Derived.Lib.SmallJoins
namespace Go.Proofs.YtmpgokijlikddaaGreatDoor
open Go.RowKit Go.Sort Go.Shelf Go.Lib
abbrev Tab (w : World) : Prop := Lib.TabIs Tryz.prog w "internal/strconv.uint64pow10" .u64 Lib.pow10Tab
theorem Tab.below {w w' : World} (h : Tab w) (hb : Below w.heap.size w w') : Tab w' := Go.Joins.tab_stays (g := 1) (by kernel_rfl) h hb (Nat.le_refl _)
theorem Tab.of {w w' : World} {B : Nat} (h : Tab w) (hb : Below B w w') (hB : w.heap.size ≤ B) : Tab w' := Go.Joins.tab_stays (g := 1) (by kernel_rfl) h hb hB
theorem below_growD (w : World) (k : Nat) (os : Array Obj) : Below w.heap.size w (grow (w.drewN k) os) := by
  refine ⟨rfl, rfl, rfl, by simp, fun i hi => ?_⟩
  rw [heap_grow_old _ _ (by simpa using hi)]
  rfl
theorem i_dec (u : Nat) (w : World) (h : u < 10000000000) (ht : Tab w) : Calls Tryz.prog 78 #[.int .i64 u] w fun e w' => e = .returned (.string ⟨(Lib.decDigits u).toArray⟩) ∧ Below w.heap.size w w' := by
  have con := Tryz.strconv_FormatInt_10 u (by omega) (by omega) w ht
  have hi : Lib.itoa (u : Int) = Lib.decDigits u := by
    unfold Lib.itoa
    rw [if_neg (by omega)]
    simp
  rw [hi] at con
  have CON := Lib.hid con
  clear con ht hi
  go_enter Tryz.func78, Tryz.ntmps78
  go_wp2_with fail
  refine CON.out.mono ?_
  rintro e w1 ⟨rfl, k, os, rfl⟩
  go_wp2_with fail
  go_ret
  exact ⟨rfl, below_growD _ _ _⟩
end Go.Proofs.YtmpgokijlikddaaGreatDoor
