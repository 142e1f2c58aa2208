/- Texts of small letters: the program's isSmall and the reference's l01Name return what the plain function says. Conditions: the bounds that stand in the theorems. -/
import Derived.Test.YtmpgokijlikddaaGreatDoorArith
import Derived.Test.YtmpgokijlikddaaGreatDoorKit
import Derived.Test.YtmpgokijlikddaaGreatDoorShelf
import Derived.Shelf.Strings.SlTrimAscii
namespace Go.Proofs.YtmpgokijlikddaaGreatDoor
open Go.RowKit
def letB (b : UInt8) : Bool := decide (97 ≤ b.toNat ∧ b.toNat ≤ 122)
def smallB (l : List UInt8) (most : Int) : Bool := l.all letB && (decide (1 ≤ l.length) && decide ((l.length : Int) ≤ most))
def letters : List UInt8 := [97, 98, 99, 100, 101, 102, 103, 104, 105, 106, 107, 108, 109, 110, 111, 112, 113, 114, 115, 116, 117, 118, 119, 120, 121, 122]
theorem letters_has (b : UInt8) : letters.contains b = letB b := by
  have h : ∀ n : Fin 256, letters.contains (UInt8.ofFin n) = letB (UInt8.ofFin n) := by decide +kernel
  have := h b.toFin
  rwa [UInt8.ofFin_toFin] at this
theorem drop_nil {α : Type} (p : α → Bool) : ∀ l : List α, l.dropWhile p = [] ↔ l.all p = true
  | [] => by simp
  | x :: l => by
    by_cases h : p x = true
    · simp [h, drop_nil p l]
    · simp [h]
theorem drop_all {α : Type} (p : α → Bool) : ∀ l : List α, (l.dropWhile p).all p = true → l.all p = true
  | [] => by simp
  | x :: l => by
    by_cases h : p x = true
    · simp only [List.dropWhile_cons, h, if_true, List.all_cons, Bool.true_and]; exact drop_all p l
    · simp [h]
theorem trim_nil (l : List UInt8) : Lib.trimS l letters = [] ↔ l.all letB = true := by
  have e : (fun b => letters.contains b) = letB := funext letters_has
  unfold Lib.trimS Lib.trimLeftS Lib.trimRightS
  rw [e, drop_nil, List.all_reverse]
  constructor
  · intro h; have := drop_all letB _ h; rwa [List.all_reverse] at this
  · intro h
    have h' : l.reverse.all letB = true := by rwa [List.all_reverse]
    rw [(drop_nil letB l.reverse).2 h']; rfl
def lettersB : ByteArray := ⟨#[97, 98, 99, 100, 101, 102, 103, 104, 105, 106, 107, 108, 109, 110, 111, 112, 113, 114, 115, 116, 117, 118, 119, 120, 121, 122]⟩
theorem i_trim (s : ByteArray) (w : World) (hs : s.size ≤ 9223372036854775807) : Calls Tryz.prog 199 #[.string s, .string ⟨#[97, 98, 99, 100, 101, 102, 103, 104, 105, 106, 107, 108, 109, 110, 111, 112, 113, 114, 115, 116, 117, 118, 119, 120, 121, 122]⟩] w fun e w' =>
    ∃ r : List UInt8, e = .returned (.string ⟨r.toArray⟩) ∧ (r = [] ↔ s.data.toList.all letB = true) ∧ Below w.heap.size w w' := by
  have h := Any.strings_Trim_laid Tryz.lays160 (by kernel_rfl) s ⟨#[97, 98, 99, 100, 101, 102, 103, 104, 105, 106, 107, 108, 109, 110, 111, 112, 113, 114, 115, 116, 117, 118, 119, 120, 121, 122]⟩ w hs (by decide) (ascii_of_all (by decide))
  refine Calls.mono h fun e w' h => ⟨_, h.1, trim_nil s.data.toList, h.2⟩
theorem i_small (s : ByteArray) (most : Int) (w : World) (hs : s.size ≤ 9223372036854775807) : Calls Tryz.prog 149 #[.string s, .int .i64 most] w fun e w' => e = .returned (.bool (smallB s.data.toList most)) ∧ Below w.heap.size w w' := by
  have hl : s.data.toList.length = s.size := rfl
  by_cases h1 : 1 ≤ s.size
  · by_cases h2 : (s.size : Int) ≤ most
    · go_enter Tryz.func149, Tryz.ntmps149
      go_wp2_with fail
      refine (i_trim s _ hs).mono ?_
      rintro e w1 ⟨r, rfl, hr, hb⟩
      obtain ⟨b, hb'⟩ : ∃ b, s.data.toList.all letB = b := ⟨_, rfl⟩
      have hF : smallB s.data.toList most = b := by unfold smallB; rw [hb', hl]; simp [h1, h2]
      have HF := Lib.hid hF; clear hF
      cases b
      · have hne : r ≠ [] := fun e => by rw [hr.1 e] at hb'; cases hb'
        have e1 : r.isEmpty = false := by simpa using hne
        clear hr hb' hne
        go_wp2_with fail
        go_ret
        exact ⟨by rw [HF.out]; rfl, hb⟩
      · have he : r = [] := hr.2 hb'
        subst he
        clear hr hb'
        go_wp2_with fail
        go_ret
        exact ⟨by rw [HF.out]; rfl, hb⟩
    · have hF : smallB s.data.toList most = false := by unfold smallB; rw [hl]; simp [h2]
      have HF := Lib.hid hF; clear hF
      have h2' : most < s.size := by omega
      clear h2
      go_enter Tryz.func149, Tryz.ntmps149
      go_wp2_with fail
      go_ret
      exact ⟨by rw [HF.out]; rfl, Below.refl _ _⟩
  · have hF : smallB s.data.toList most = false := by unfold smallB; rw [hl]; simp [h1]
    have HF := Lib.hid hF; clear hF
    have h1' : (s.size : Int) < 1 := by omega
    clear h1
    go_enter Tryz.func149, Tryz.ntmps149
    go_wp2_with fail
    go_ret
    exact ⟨by rw [HF.out]; rfl, Below.refl _ _⟩
theorem take_all (l : List UInt8) (k : Nat) (h : k < l.length) : (l.take (k + 1)).all letB = ((l.take k).all letB && letB l[k]) := by
  rw [List.take_succ_eq_append_getElem h, List.all_append]; simp
set_option maxHeartbeats 400000 in
theorem s_small (s : ByteArray) (most : Int) (w : World) (hs : s.size ≤ 9223372036854775807) : Calls Tryz.prog 150 #[.string s, .int .i64 most] w fun e w' => e = .returned (.bool (smallB s.data.toList most)) ∧ w = w' := by
  have hl : s.data.toList.length = s.size := rfl
  go_enter Tryz.func150, Tryz.ntmps150
  go_wp2_with fail
  go_loop [5] (fun i => ∃ k : Nat, k ≤ s.size ∧ i = .int .i64 k ∧ (s.data.toList.take k).all letB = true) (fun i => s.size - (intOf i).toNat)
  case atStart => exact ⟨0, by omega, rfl, by simp⟩
  case round =>
    obtain ⟨k, hk, rfl, hall⟩ := hrel
    have HA := Lib.hid hall; clear hall
    by_cases hlt : k < s.size
    · have hta := take_all s.data.toList k (by rw [hl]; exact hlt)
      rw [HA.out, Bool.true_and] at hta
      have hta' : (s.data.toList.take (k + 1)).all letB = letB s[k] := hta
      have HT := Lib.hid hta'; clear hta hta'
      by_cases hb1 : (s[k].toNat : Int) < 97
      · have hf : smallB s.data.toList most = false := by
          have h1 : (s.data.toList.take (k + 1)).all letB = false := by rw [HT.out]; unfold letB; simp; omega
          have h2 : s.data.toList.all letB = false := by
            rw [← List.take_append_drop (k + 1) s.data.toList, List.all_append, h1]; rfl
          unfold smallB; rw [h2]; rfl
        have HF := Lib.hid hf; clear hf
        go_wp2_with fail
        go_ret
        exact ⟨by rw [HF.out]; rfl, rfl⟩
      · by_cases hb2 : (122 : Int) < s[k].toNat
        · have hf : smallB s.data.toList most = false := by
            have h1 : (s.data.toList.take (k + 1)).all letB = false := by rw [HT.out]; unfold letB; simp; omega
            have h2 : s.data.toList.all letB = false := by
              rw [← List.take_append_drop (k + 1) s.data.toList, List.all_append, h1]; rfl
            unfold smallB; rw [h2]; rfl
          have HF := Lib.hid hf; clear hf
          have hb1' : (97 : Int) ≤ s[k].toNat := by omega
          clear hb1
          go_wp2_with fail
          go_ret
          exact ⟨by rw [HF.out]; rfl, rfl⟩
        · have hb1' : (97 : Int) ≤ s[k].toNat := by omega
          have hb2' : (s[k].toNat : Int) ≤ 122 := by omega
          clear hb1 hb2
          go_wp2_with fail
          go_round
          case rel => exact ⟨k + 1, by omega, by go_num, by rw [HT.out]; unfold letB; simp; omega⟩
          case measure => simp [intOf]; omega
    · have hall : s.data.toList.all letB = true := by
        have := HA.out
        rwa [List.take_of_length_le (by rw [hl]; omega)] at this
      have hF : smallB s.data.toList most = (decide (1 ≤ s.size) && decide ((s.size : Int) ≤ most)) := by unfold smallB; rw [hall, hl]; rfl
      have HF := Lib.hid hF; clear hF hall
      by_cases h1 : 1 ≤ s.size
      · by_cases h2 : (s.size : Int) ≤ most
        · go_wp2_with fail
          go_ret
          exact ⟨by rw [HF.out]; simp [h1, h2], rfl⟩
        · have h2' : most < s.size := by omega
          go_wp2_with fail
          go_ret
          exact ⟨by rw [HF.out]; simp [h2], rfl⟩
      · have h1' : (s.size : Int) < 1 := by omega
        go_wp2_with fail
        go_ret
        exact ⟨by rw [HF.out]; simp [h1], rfl⟩
end Go.Proofs.YtmpgokijlikddaaGreatDoor
