/- The names of the months, the weekdays and the styles: the program's and the reference's functions return what the plain functions say. Condition, where the program splits a text: that the library's variable MaxLen holds an int. -/
import Derived.Test.YtnoeakhhokbikaaDoorStrs
import Derived.Test.YtnoeakhhokbikaaDoorMax
import Derived.Test.YtnoeakhhokbikaaDoorArith
namespace Go.Proofs.YtnoeakhhokbikaaDoor
open Go.RowKit
theorem i_split (s : ByteArray) (l : List (List UInt8)) (w : World) (hm : MaxOk w) (hs : s.size < 4294967281) (hl : (Lib.splitB ⟨#[32]⟩ 0 (Lib.countB s ⟨#[32]⟩) s) = l.map (fun x => ⟨x.toArray⟩)) (hn : Lib.countB s ⟨#[32]⟩ + 1 = l.length) (hmx : l.length ≤ maxLen) :
    Calls Tryd.prog 108 #[.string s, .string ⟨#[32]⟩] w fun e w' => ∃ v, e = .returned v ∧ OwnS w' w.heap.size v l ∧ Below w.heap.size w w' := by
  obtain ⟨m, hm⟩ := hm
  refine (Tryd.strings_Split s ⟨#[32]⟩ m w hs hm (by decide)).mono fun e w' ⟨he, hw⟩ => ⟨_, he, ?_, ?_⟩
  · subst hw
    rw [hn]
    exact OwnS.lit w _ _ l (by rw [hl, List.map_map]; rfl) (Nat.le_refl _) hmx
  · subst hw; exact below_alloc _ _
def nameAt (l : List (List UInt8)) (low high off n : Int) : List UInt8 := if inB n low high = true then l.getD (n - off).toNat [] else []
def monthsL : List (List UInt8) := [[106, 97, 110, 117, 97, 114, 121], [102, 101, 98, 114, 117, 97, 114, 121], [109, 97, 114, 99, 104], [97, 112, 114, 105, 108], [109, 97, 121], [106, 117, 110, 101], [106, 117, 108, 121], [97, 117, 103, 117, 115, 116], [115, 101, 112, 116, 101, 109, 98, 101, 114], [111, 99, 116, 111, 98, 101, 114], [110, 111, 118, 101, 109, 98, 101, 114], [100, 101, 99, 101, 109, 98, 101, 114]]
def weekdaysL : List (List UInt8) := [[109, 111, 110, 100, 97, 121], [116, 117, 101, 115, 100, 97, 121], [119, 101, 100, 110, 101, 115, 100, 97, 121], [116, 104, 117, 114, 115, 100, 97, 121], [102, 114, 105, 100, 97, 121], [115, 97, 116, 117, 114, 100, 97, 121], [115, 117, 110, 100, 97, 121]]
def stylesL : List (List UInt8) := [[106, 97, 110, 117, 97, 114, 121], [109, 97, 114, 99, 104], [108, 97, 100, 121], [112, 105, 115, 97], [101, 97, 115, 116, 101, 114], [99, 104, 114, 105, 115, 116, 109, 97, 115], [115, 101, 112, 116, 101, 109, 98, 101, 114]]
theorem styles_split : Lib.splitB ⟨#[32]⟩ 0 (Lib.countB ⟨#[106, 97, 110, 117, 97, 114, 121, 32, 109, 97, 114, 99, 104, 32, 108, 97, 100, 121, 32, 112, 105, 115, 97, 32, 101, 97, 115, 116, 101, 114, 32, 99, 104, 114, 105, 115, 116, 109, 97, 115, 32, 115, 101, 112, 116, 101, 109, 98, 101, 114]⟩ ⟨#[32]⟩) ⟨#[106, 97, 110, 117, 97, 114, 121, 32, 109, 97, 114, 99, 104, 32, 108, 97, 100, 121, 32, 112, 105, 115, 97, 32, 101, 97, 115, 116, 101, 114, 32, 99, 104, 114, 105, 115, 116, 109, 97, 115, 32, 115, 101, 112, 116, 101, 109, 98, 101, 114]⟩ = stylesL.map (fun x => ⟨x.toArray⟩) := by decide +kernel
theorem styles_count : Lib.countB ⟨#[106, 97, 110, 117, 97, 114, 121, 32, 109, 97, 114, 99, 104, 32, 108, 97, 100, 121, 32, 112, 105, 115, 97, 32, 101, 97, 115, 116, 101, 114, 32, 99, 104, 114, 105, 115, 116, 109, 97, 115, 32, 115, 101, 112, 116, 101, 109, 98, 101, 114]⟩ ⟨#[32]⟩ + 1 = 7 := by decide +kernel
theorem i_styles (w : World) (hm : MaxOk w) : Calls Tryd.prog 62 #[] w fun e w' => ∃ v, e = .returned v ∧ OwnS w' w.heap.size v stylesL ∧ Below w.heap.size w w' := by
  have con := i_split ⟨#[106, 97, 110, 117, 97, 114, 121, 32, 109, 97, 114, 99, 104, 32, 108, 97, 100, 121, 32, 112, 105, 115, 97, 32, 101, 97, 115, 116, 101, 114, 32, 99, 104, 114, 105, 115, 116, 109, 97, 115, 32, 115, 101, 112, 116, 101, 109, 98, 101, 114]⟩ stylesL w hm (by decide) styles_split styles_count (by decide)
  have HM := Lib.hid hm; clear hm
  go_enter Tryd.func62, Tryd.ntmps62
  go_wp2_with fail
  refine con.mono ?_
  rintro e w1 ⟨v, rfl, ho, hb⟩
  go_wp2_with fail
  go_ret
  exact ⟨v, rfl, ho, hb⟩
theorem s_styles (w : World) : Calls Tryd.prog 64 #[] w fun e w' => ∃ v, e = .returned v ∧ OwnS w' w.heap.size v stylesL ∧ Below w.heap.size w w' := by
  go_enter Tryd.func64, Tryd.ntmps64
  go_wp2_with fail
  go_ret
  exact ⟨_, rfl, OwnS.lit w _ _ stylesL (by rfl) (Nat.le_refl _) (by decide), below_alloc _ _⟩
theorem i_StyleName (n : Int) (w : World) (hm : MaxOk w) : Calls Tryd.prog 21 #[.int .i64 n] w fun e w' => e = .returned (.string ⟨(nameAt stylesL 0 6 0 n).toArray⟩) ∧ Below w.heap.size w w' := by
  by_cases hn : inB n 0 6 = true
  · obtain ⟨h0, h1⟩ := inB_iff.1 hn
    have hF : nameAt stylesL 0 6 0 n = stylesL.getD (n.toNat) [] := by unfold nameAt; rw [if_pos hn]; simp
    have HF := Lib.hid hF; clear hF
    have con := i_styles w hm
    have CON := Lib.hid con; clear con
    go_enter Tryd.func21, Tryd.ntmps21
    go_wp2_with (go_at_call 52; refine (toB (i_style _ _) (by assumption)).mono ?_; rintro e w' ⟨rfl, rfl⟩)
    refine CON.out.mono ?_
    rintro e w1 ⟨v, rfl, ho, hb⟩
    obtain ⟨g, c, rfl, _, _, _, _, hc, _⟩ := ho.openedC (by decide)
    have hl : stylesL.length = 7 := rfl
    have hcell := hc (n.toNat) (by rw [hl]; omega)
    rw [hl]
    clear hc hl ho
    go_wp2_with fail
    go_ret
    exact ⟨by rw [HF.out]; rfl, hb⟩
  · have hn' : inB n 0 6 = false := by simpa using hn
    have hF : nameAt stylesL 0 6 0 n = [] := by unfold nameAt; rw [if_neg hn]
    rw [hF]; clear hF hn
    go_enter Tryd.func21, Tryd.ntmps21
    go_wp2_with (go_at_call 52; refine (toB (i_style _ _) (by assumption)).mono ?_; rintro e w' ⟨rfl, rfl⟩)
    go_ret
    exact ⟨rfl, Below.refl _ _⟩
theorem s_StyleName (n : Int) (w : World) : Calls Tryd.prog 26 #[.int .i64 n] w fun e w' => e = .returned (.string ⟨(nameAt stylesL 0 6 0 n).toArray⟩) ∧ Below w.heap.size w w' := by
  by_cases hn : inB n 0 6 = true
  · obtain ⟨h0, h1⟩ := inB_iff.1 hn
    have hF : nameAt stylesL 0 6 0 n = stylesL.getD (n.toNat) [] := by unfold nameAt; rw [if_pos hn]; simp
    have HF := Lib.hid hF; clear hF
    have con := s_styles w
    have CON := Lib.hid con; clear con
    go_enter Tryd.func26, Tryd.ntmps26
    go_wp2_with (go_at_call 55; refine (toB (s_style _ _) (by assumption)).mono ?_; rintro e w' ⟨rfl, rfl⟩)
    refine CON.out.mono ?_
    rintro e w1 ⟨v, rfl, ho, hb⟩
    obtain ⟨g, c, rfl, _, _, _, _, hc, _⟩ := ho.openedC (by decide)
    have hl : stylesL.length = 7 := rfl
    have hcell := hc (n.toNat) (by rw [hl]; omega)
    rw [hl]
    clear hc hl ho
    go_wp2_with fail
    go_ret
    exact ⟨by rw [HF.out]; rfl, hb⟩
  · have hn' : inB n 0 6 = false := by simpa using hn
    have hF : nameAt stylesL 0 6 0 n = [] := by unfold nameAt; rw [if_neg hn]
    rw [hF]; clear hF hn
    go_enter Tryd.func26, Tryd.ntmps26
    go_wp2_with (go_at_call 55; refine (toB (s_style _ _) (by assumption)).mono ?_; rintro e w' ⟨rfl, rfl⟩)
    go_ret
    exact ⟨rfl, Below.refl _ _⟩
end Go.Proofs.YtnoeakhhokbikaaDoor
