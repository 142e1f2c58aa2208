/- The ordinals: the program's and the reference's functions return what the plain functions say. Condition, where the program splits a text: that the library's variable MaxLen holds an int. -/
import Derived.Test.YtmpgokijlikddaaGreatDoorNames
import Derived.Test.YtmpgokijlikddaaGreatDoorIdx
namespace Go.Proofs.YtmpgokijlikddaaGreatDoor
open Go.RowKit
def ordL : List (List UInt8) := [[102, 105, 114, 115, 116], [115, 101, 99, 111, 110, 100], [116, 104, 105, 114, 100], [102, 111, 117, 114, 116, 104], [102, 105, 102, 116, 104], [115, 105, 120, 116, 104], [115, 101, 118, 101, 110, 116, 104], [101, 105, 103, 104, 116, 104], [110, 105, 110, 116, 104], [116, 101, 110, 116, 104], [101, 108, 101, 118, 101, 110, 116, 104], [116, 119, 101, 108, 102, 116, 104], [116, 104, 105, 114, 116, 101, 101, 110, 116, 104], [102, 111, 117, 114, 116, 101, 101, 110, 116, 104], [102, 105, 102, 116, 101, 101, 110, 116, 104], [115, 105, 120, 116, 101, 101, 110, 116, 104], [115, 101, 118, 101, 110, 116, 101, 101, 110, 116, 104], [101, 105, 103, 104, 116, 101, 101, 110, 116, 104], [110, 105, 110, 101, 116, 101, 101, 110, 116, 104], [116, 119, 101, 110, 116, 105, 101, 116, 104], [116, 119, 101, 110, 116, 121, 45, 102, 105, 114, 115, 116], [116, 119, 101, 110, 116, 121, 45, 115, 101, 99, 111, 110, 100], [116, 119, 101, 110, 116, 121, 45, 116, 104, 105, 114, 100], [116, 119, 101, 110, 116, 121, 45, 102, 111, 117, 114, 116, 104], [116, 119, 101, 110, 116, 121, 45, 102, 105, 102, 116, 104], [116, 119, 101, 110, 116, 121, 45, 115, 105, 120, 116, 104], [116, 119, 101, 110, 116, 121, 45, 115, 101, 118, 101, 110, 116, 104], [116, 119, 101, 110, 116, 121, 45, 101, 105, 103, 104, 116, 104], [116, 119, 101, 110, 116, 121, 45, 110, 105, 110, 116, 104], [116, 104, 105, 114, 116, 105, 101, 116, 104], [116, 104, 105, 114, 116, 121, 45, 102, 105, 114, 115, 116]]
def ord20 : List (List UInt8) := ordL.take 20
def ordT (n : Int) : List UInt8 := nameAt ordL 1 31 1 n
def rdOrd (x : List UInt8) : Int := idxL ordL x
theorem bcat' (l m : List UInt8) : (⟨l.toArray⟩ : ByteArray) ++ ⟨m.toArray⟩ = ⟨(l ++ m).toArray⟩ := by
  apply ByteArray.ext; simp
theorem ord_tw : ∀ k : Nat, k < 9 → [116, 119, 101, 110, 116, 121, 45] ++ ordL.getD k [] = ordL.getD (20 + k) [] := by decide +kernel
theorem ord_tk : ∀ k : Nat, k < 9 → ordL.take (20 + k) ++ [ordL.getD (20 + k) []] = ordL.take (20 + (k + 1)) := by decide +kernel
theorem ord_get : ∀ k : Nat, k < 9 → ∀ j : Nat, j < 9 → (ordL.take (20 + k)).getD j [] = ordL.getD j [] := by decide +kernel
theorem ord_len : ∀ k : Nat, k < 10 → (ordL.take (20 + k)).length = 20 + k := by decide +kernel
theorem ord_tlen : ∀ k : Nat, k < 31 → (ordL.getD k []).length ≤ 20 := by decide +kernel
set_option maxRecDepth 100000 in
theorem ord_split : Lib.splitB ⟨#[32]⟩ 0 (Lib.countB ⟨#[102, 105, 114, 115, 116, 32, 115, 101, 99, 111, 110, 100, 32, 116, 104, 105, 114, 100, 32, 102, 111, 117, 114, 116, 104, 32, 102, 105, 102, 116, 104, 32, 115, 105, 120, 116, 104, 32, 115, 101, 118, 101, 110, 116, 104, 32, 101, 105, 103, 104, 116, 104, 32, 110, 105, 110, 116, 104, 32, 116, 101, 110, 116, 104, 32, 101, 108, 101, 118, 101, 110, 116, 104, 32, 116, 119, 101, 108, 102, 116, 104, 32, 116, 104, 105, 114, 116, 101, 101, 110, 116, 104, 32, 102, 111, 117, 114, 116, 101, 101, 110, 116, 104, 32, 102, 105, 102, 116, 101, 101, 110, 116, 104, 32, 115, 105, 120, 116, 101, 101, 110, 116, 104, 32, 115, 101, 118, 101, 110, 116, 101, 101, 110, 116, 104, 32, 101, 105, 103, 104, 116, 101, 101, 110, 116, 104, 32, 110, 105, 110, 101, 116, 101, 101, 110, 116, 104, 32, 116, 119, 101, 110, 116, 105, 101, 116, 104]⟩ ⟨#[32]⟩) ⟨#[102, 105, 114, 115, 116, 32, 115, 101, 99, 111, 110, 100, 32, 116, 104, 105, 114, 100, 32, 102, 111, 117, 114, 116, 104, 32, 102, 105, 102, 116, 104, 32, 115, 105, 120, 116, 104, 32, 115, 101, 118, 101, 110, 116, 104, 32, 101, 105, 103, 104, 116, 104, 32, 110, 105, 110, 116, 104, 32, 116, 101, 110, 116, 104, 32, 101, 108, 101, 118, 101, 110, 116, 104, 32, 116, 119, 101, 108, 102, 116, 104, 32, 116, 104, 105, 114, 116, 101, 101, 110, 116, 104, 32, 102, 111, 117, 114, 116, 101, 101, 110, 116, 104, 32, 102, 105, 102, 116, 101, 101, 110, 116, 104, 32, 115, 105, 120, 116, 101, 101, 110, 116, 104, 32, 115, 101, 118, 101, 110, 116, 101, 101, 110, 116, 104, 32, 101, 105, 103, 104, 116, 101, 101, 110, 116, 104, 32, 110, 105, 110, 101, 116, 101, 101, 110, 116, 104, 32, 116, 119, 101, 110, 116, 105, 101, 116, 104]⟩ = ord20.map (fun x => ⟨x.toArray⟩) := by kernel_rfl
set_option maxRecDepth 100000 in
theorem ord_count : Lib.countB ⟨#[102, 105, 114, 115, 116, 32, 115, 101, 99, 111, 110, 100, 32, 116, 104, 105, 114, 100, 32, 102, 111, 117, 114, 116, 104, 32, 102, 105, 102, 116, 104, 32, 115, 105, 120, 116, 104, 32, 115, 101, 118, 101, 110, 116, 104, 32, 101, 105, 103, 104, 116, 104, 32, 110, 105, 110, 116, 104, 32, 116, 101, 110, 116, 104, 32, 101, 108, 101, 118, 101, 110, 116, 104, 32, 116, 119, 101, 108, 102, 116, 104, 32, 116, 104, 105, 114, 116, 101, 101, 110, 116, 104, 32, 102, 111, 117, 114, 116, 101, 101, 110, 116, 104, 32, 102, 105, 102, 116, 101, 101, 110, 116, 104, 32, 115, 105, 120, 116, 101, 101, 110, 116, 104, 32, 115, 101, 118, 101, 110, 116, 101, 101, 110, 116, 104, 32, 101, 105, 103, 104, 116, 101, 101, 110, 116, 104, 32, 110, 105, 110, 101, 116, 101, 101, 110, 116, 104, 32, 116, 119, 101, 110, 116, 105, 101, 116, 104]⟩ ⟨#[32]⟩ + 1 = 20 := by kernel_rfl
theorem ord_last : ordL.take (20 + 9) ++ [[116, 104, 105, 114, 116, 105, 101, 116, 104], [116, 104, 105, 114, 116, 121, 45, 102, 105, 114, 115, 116]] = ordL := by decide +kernel
set_option maxHeartbeats 400000 in
theorem i_ordinals (w : World) (hm : MaxOk w) : Calls Tryz.prog 124 #[] w fun e w' => ∃ v, e = .returned v ∧ OwnS w' w.heap.size v ordL ∧ Below w.heap.size w w' := by
  have con := i_split ⟨#[102, 105, 114, 115, 116, 32, 115, 101, 99, 111, 110, 100, 32, 116, 104, 105, 114, 100, 32, 102, 111, 117, 114, 116, 104, 32, 102, 105, 102, 116, 104, 32, 115, 105, 120, 116, 104, 32, 115, 101, 118, 101, 110, 116, 104, 32, 101, 105, 103, 104, 116, 104, 32, 110, 105, 110, 116, 104, 32, 116, 101, 110, 116, 104, 32, 101, 108, 101, 118, 101, 110, 116, 104, 32, 116, 119, 101, 108, 102, 116, 104, 32, 116, 104, 105, 114, 116, 101, 101, 110, 116, 104, 32, 102, 111, 117, 114, 116, 101, 101, 110, 116, 104, 32, 102, 105, 102, 116, 101, 101, 110, 116, 104, 32, 115, 105, 120, 116, 101, 101, 110, 116, 104, 32, 115, 101, 118, 101, 110, 116, 101, 101, 110, 116, 104, 32, 101, 105, 103, 104, 116, 101, 101, 110, 116, 104, 32, 110, 105, 110, 101, 116, 101, 101, 110, 116, 104, 32, 116, 119, 101, 110, 116, 105, 101, 116, 104]⟩ ord20 w hm (by decide +kernel) ord_split ord_count (by decide +kernel)
  have HM := Lib.hid hm; clear hm
  go_enter Tryz.func124, Tryz.ntmps124
  go_wp2_with fail
  refine con.mono ?_
  clear con
  rintro e w1 ⟨v, rfl, ho, hb⟩
  go_wp2_with fail
  go_loopw [1, 4] (fun v i wr => ∃ k : Nat, k ≤ 9 ∧ i = .int .i64 k ∧ OwnS wr w.heap.size v (ordL.take (20 + k)) ∧ Below w.heap.size w wr) (fun _ i _ => 9 - (intOf i).toNat)
  case atStart => exact ⟨0, by omega, rfl, ho, hb⟩
  case round =>
    obtain ⟨k, hk, rfl, hown, hB⟩ := hrel
    clear hb ho
    have hw := hB.size
    have hlen := ord_len k (by omega)
    by_cases hlt : k < 9
    · have e1 := ord_tw k hlt
      have e2 := ord_tk k hlt
      have e3 := ord_get k hlt k hlt
      have e4 := ord_tlen k (by omega)
      obtain ⟨g, c, rfl, _, _, _, _, hc, _⟩ := hown.openedC (by omega)
      have hcell := hc k (by omega)
      rw [e3] at hcell
      rw [hlen] at hown ⊢
      clear hc e3
      obtain ⟨x, hx⟩ : ∃ x, ordL.getD k [] = x := ⟨_, rfl⟩
      rw [hx] at e1 hcell e4
      have hn : ¬ 9223372036854775807 < 7 + x.length := by omega
      clear hx
      rw [← e1] at e2
      have E2 := Lib.hid e2; clear e1 e2
      have HL := Lib.hid hlen; clear hlen
      go_wp2_with (at_builtin; refine wpList_appS rfl (.tmp 7) (.tmp 13) rfl wr w.heap.size (.slice (some ⟨g, 0, none⟩) (20 + k) c) _ ([116, 119, 101, 110, 116, 121, 45] ++ x) _ (congrArg Value.string (bcat' [116, 119, 101, 110, 116, 121, 45] x)) rfl hown rfl (by rw [HL.out]; omega) hw ?_; intro v' w2 hown2 hg2)
      go_roundw
      case rel => exact ⟨k + 1, by omega, by go_num, by rw [← E2.out]; exact hown2, hown.below_grown hB hg2 hw⟩
      case measure => simp [intOf]; omega
    · obtain rfl : k = 9 := by omega
      obtain ⟨g, c, rfl, _, _, _, _, _, _⟩ := hown.openedC (by omega)
      rw [hlen] at hown ⊢
      have HL := Lib.hid hlen; clear hlen
      go_wp2_with (at_builtin; refine wpList_appS2 rfl (.tmp 16) (.tmp 17) rfl wr w.heap.size (.slice (some ⟨g, 0, none⟩) (20 + 9) c) _ [116, 104, 105, 114, 116, 105, 101, 116, 104] [116, 104, 105, 114, 116, 121, 45, 102, 105, 114, 115, 116] rfl hown rfl (by rw [HL.out]; omega) hw ?_; intro v' w2 hown2 hg2)
      go_ret
      exact ⟨_, rfl, by rw [ord_last] at hown2; exact hown2, hown.below_grown hB hg2 hw⟩
end Go.Proofs.YtmpgokijlikddaaGreatDoor
