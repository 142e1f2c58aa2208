/- PhraseText: the program's and the reference's functions return what the plain function says. Conditions: lengths that a machine can hold; how the list lies. -/
import Derived.Test.YtmpgokijlikddaaGreatDoorAre
import Derived.Test.YtmpgokijlikddaaGreatDoorWrds
import Derived.Test.YtmpgokijlikddaaGreatDoorJoin
namespace Go.Proofs.YtmpgokijlikddaaGreatDoor
open Go.RowKit
def phB (xs : List (List UInt8)) : Bool := xs.all wordB && decide (xs.length ≤ 60)
def phF (xs : List (List UInt8)) : List UInt8 × Int := if phB xs then (Lib.join xs [32], 0) else ([], 1)
theorem ph_len {xs : List (List UInt8)} (h : phB xs = true) : xs.length ≤ 60 ∧ ∀ i, (xs.getD i []).length ≤ 20 := by
  unfold phB at h
  rw [Bool.and_eq_true, decide_eq_true_eq] at h
  refine ⟨h.2, fun i => ?_⟩
  by_cases hi : i < xs.length
  · have := List.all_eq_true.1 h.1 xs[i] (List.getElem_mem hi)
    rw [show xs.getD i [] = xs[i] by simp [List.getD, hi]]
    exact word_len this
  · rw [List.getD_eq_getElem?_getD, List.getElem?_eq_none (by omega)]; simp
theorem i_isPhrase {b : Nat} {v : Value} {xs : List (List UInt8)} (w : World) (h : OwnS w b v xs) (hx : ∀ j, (xs.getD j []).length ≤ 9223372036854775807) :
    Calls Tryz.prog 101 #[v] w fun e w' => e = .returned (.bool (phB xs)) ∧ Below w.heap.size w w' := by
  have con := fun W (hW : OwnS W b v xs) => i_are W hW hx
  obtain ⟨hl, A, c, rfl, p⟩ := h.opened
  clear p
  have HO := Lib.hid h; clear h
  by_cases h60 : xs.length ≤ 60
  · have hd : decide ((xs.length : Int) ≤ 60) = true := by simp; omega
    obtain ⟨b', hb'⟩ : ∃ b', xs.all wordB = b' := ⟨_, rfl⟩
    have hF : phB xs = b' := by unfold phB; rw [hb']; simp [h60]
    rw [hb'] at con
    have HF := Lib.hid hF; clear hF hb'
    have CON := Lib.hid con; clear con hx
    go_enter Tryz.func101, Tryz.ntmps101
    go_wp2_with fail
    refine (CON.out _ HO.out).mono ?_
    rintro e w1 ⟨rfl, hb⟩
    go_wp2_with fail
    go_ret
    exact ⟨by rw [HF.out]; rfl, hb⟩
  · have hd : decide ((xs.length : Int) ≤ 60) = false := by simp; omega
    have hF : phB xs = false := by unfold phB; simp [h60]
    have HF := Lib.hid hF; clear hF con
    have h60' : (60 : Int) < xs.length := by omega
    clear h60 hx
    go_enter Tryz.func101, Tryz.ntmps101
    go_wp2_with fail
    go_ret
    exact ⟨by rw [HF.out]; rfl, Below.refl _ _⟩
theorem i_sjoin {b : Nat} {v : Value} {xs : List (List UInt8)} (w : World) (h : OwnS w b v xs) (hn : xs.length ≤ 1000) (hM : ∀ i, (xs.getD i []).length ≤ 1000) :
    Calls Tryz.prog 80 #[v, .string ⟨#[32]⟩] w fun e w' => e = .returned (.string ⟨(Lib.join xs [32]).toArray⟩) ∧ Below w.heap.size w w' := by
  obtain ⟨hl, A, c, hv, p⟩ := h.opened
  by_cases h0 : 0 < xs.length
  · obtain ⟨g, cc, rfl, _, hg, hcc, _, hcell, _⟩ := h.openedC h0
    have hlj := join_len1 xs 32 1000 hM xs.length (Nat.le_refl _)
    rw [List.take_length] at hlj
    have hmul : 1001 * xs.length ≤ 1001 * 1000 := Nat.mul_le_mul_left _ hn
    have e1 : (xs.map fun x => (⟨x.toArray⟩ : ByteArray)).map (·.data.toList) = xs := by rw [List.map_map]; exact (List.map_congr_left fun x _ => by simp).trans (List.map_id _)
    have key := Tryz.strings_Join g 0 cc (xs.map fun x => (⟨x.toArray⟩ : ByteArray)) ⟨#[32]⟩ w (fun j x hx => by
      rw [List.getElem?_map, Option.map_eq_some_iff] at hx
      obtain ⟨y, hy, rfl⟩ := hx
      have hj := (List.getElem?_eq_some_iff.1 hy).1
      rw [Nat.zero_add, hcell j hj, List.getD_eq_getElem?_getD, hy]; rfl) hg (by simp; omega) (by simpa using hcc) (by rw [e1]; show (Lib.join xs [32]).length ≤ _; omega)
    rw [e1, List.length_map] at key
    exact key
  · have : xs = [] := List.eq_nil_of_length_eq_zero (by omega)
    subst this
    subst hv
    refine (Tryz.strings_Join_none A c ⟨#[32]⟩ w).mono fun e w' ⟨he, hw⟩ => ⟨he, by rw [hw]; exact Below.refl _ _⟩
theorem i_PhraseText {b : Nat} {v : Value} {xs : List (List UInt8)} (w : World) (h : OwnS w b v xs) (hx : ∀ j, (xs.getD j []).length ≤ 9223372036854775807) :
    Calls Tryz.prog 34 #[v] w fun e w' => e = .returned (.tuple #[.string ⟨(phF xs).1.toArray⟩, .int .i64 (phF xs).2]) ∧ Below w.heap.size w w' := by
  have con := i_isPhrase w h hx
  have HO := Lib.hid h
  cases hp : phB xs with
  | true =>
    obtain ⟨p1, p2⟩ := ph_len hp
    have hF : phF xs = (Lib.join xs [32], 0) := by unfold phF; rw [hp]; rfl
    have HF := Lib.hid hF; clear hF
    have con2 := fun W (hW : OwnS W b v xs) => i_sjoin W hW (by omega) (fun i => by have := p2 i; omega)
    have CON := Lib.hid (toBelowB con hp)
    have CON2 := Lib.hid con2
    obtain ⟨t, ht⟩ : ∃ t, Lib.join xs [32] = t := ⟨_, rfl⟩
    rw [ht] at CON2 HF
    clear con con2 h hx p1 p2 hp ht
    go_enter Tryz.func34, Tryz.ntmps34
    go_wp2_with fail
    refine CON.out.mono ?_
    rintro e w1 ⟨rfl, hb⟩
    go_wp2_with fail
    refine (CON2.out _ (HO.out.below hb)).mono ?_
    rintro e w2 ⟨rfl, hb2⟩
    go_wp2_with fail
    go_ret2
    exact ⟨by rw [HF.out]; rfl, below_step hb hb2⟩
  | false =>
    have hF : phF xs = ([], 1) := by unfold phF; rw [hp]; rfl
    have HF := Lib.hid hF; clear hF
    have CON := Lib.hid (toBelowB con hp)
    clear con h hx hp
    go_enter Tryz.func34, Tryz.ntmps34
    go_wp2_with fail
    refine CON.out.mono ?_
    rintro e w1 ⟨rfl, hb⟩
    go_wp2_with fail
    go_ret2
    exact ⟨by rw [HF.out]; rfl, hb⟩
theorem s_PhraseText {b : Nat} {v : Value} {xs : List (List UInt8)} (w : World) (h : OwnS w b v xs) (hx : ∀ j, (xs.getD j []).length ≤ 9223372036854775807) :
    Calls Tryz.prog 35 #[v] w fun e w' => e = .returned (.tuple #[.string ⟨(phF xs).1.toArray⟩, .int .i64 (phF xs).2]) ∧ w = w' := by
  have con := s_phrase w h hx
  cases hp : phB xs with
  | true =>
    obtain ⟨p1, p2⟩ := ph_len hp
    have hF : phF xs = (Lib.join xs [32], 0) := by unfold phF; rw [hp]; rfl
    have HF := Lib.hid hF; clear hF
    have con2 := s_join 32 w h (by omega) (fun i => by have := p2 i; omega)
    have CON := Lib.hid (toB con hp)
    have CON2 := Lib.hid con2
    obtain ⟨t, ht⟩ : ∃ t, Lib.join xs [32] = t := ⟨_, rfl⟩
    rw [ht] at CON2 HF
    clear con con2 h hx p1 p2 hp ht
    go_enter Tryz.func35, Tryz.ntmps35
    go_wp2_with fail
    refine CON.out.mono ?_
    rintro e w1 ⟨rfl, rfl⟩
    go_wp2_with fail
    refine CON2.out.mono ?_
    rintro e w2 ⟨rfl, rfl⟩
    go_wp2_with fail
    go_ret2
    exact ⟨by rw [HF.out]; rfl, rfl⟩
  | false =>
    have hF : phF xs = ([], 1) := by unfold phF; rw [hp]; rfl
    have HF := Lib.hid hF; clear hF
    have CON := Lib.hid (toB con hp)
    clear con h hx hp
    go_enter Tryz.func35, Tryz.ntmps35
    go_wp2_with fail
    refine CON.out.mono ?_
    rintro e w1 ⟨rfl, rfl⟩
    go_wp2_with fail
    go_ret2
    exact ⟨by rw [HF.out]; rfl, rfl⟩
end Go.Proofs.YtmpgokijlikddaaGreatDoor
