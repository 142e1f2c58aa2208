/- The draws of words, of two words, of a word with a phrase and a number. Condition: how the code lies. -/
import Derived.Test.YtelppggliieniaaGreatDoorDrawP
namespace Go.Proofs.YtelppggliieniaaGreatDoor
open Go.RowKit
theorem cellsX {w : World} {b : Nat} {t : TypeId} {l : List Int} (h : Blk w b t ⟨l.map (Value.int .i64)⟩) (j : Nat) (hj : j < l.length) : w.cell? ⟨b, j, none⟩ = some (.int .i64 (l.getD j 0)) := by
  rw [h.cell j]
  simp [hj]
set_option maxRecDepth 100000 in
theorem d_NormalWord (a : Option Addr) (n c : Nat) (xs : List Int) (w : World) (hI : InB w a n xs) (hn : n ≤ 4096) (hx : ∀ i, 0 ≤ xs.getD i 0 ∧ xs.getD i 0 ≤ 255) : Calls Tryz.prog 42 #[.slice a n c] w fun e w' =>
    (∃ x : List UInt8, e = .returned (.string ⟨x.toArray⟩) ∧ x.length ≤ 40) ∧ Below w.heap.size w w' := by
  have CON := Lib.hid (d_from a n c xs w hI hn hx)
  clear hI hx hn
  go_enter Tryz.func42, Tryz.ntmps42
  go_wp2_with fail
  refine CON.out.mono ?_
  rintro e w1 ⟨rfl, hS1, hb1⟩
  go_wp2_with fail
  refine (d_word _ _ _ _ _ _ hS1).mono ?_
  rintro e w2 ⟨⟨x, rfl, hl⟩, hS2, O2⟩
  have L2 := Off.below hb1 O2 hb1.size (Nat.le_refl _)
  go_wp2_with fail
  go_ret
  exact ⟨⟨x, rfl, hl⟩, L2⟩
set_option maxRecDepth 100000 in
theorem d_WordDistance (a : Option Addr) (n c : Nat) (xs : List Int) (w : World) (hI : InB w a n xs) (hn : n ≤ 4096) (hx : ∀ i, 0 ≤ xs.getD i 0 ∧ xs.getD i 0 ≤ 255) : Calls Tryz.prog 39 #[.slice a n c] w fun e w' =>
    (∃ x y : List UInt8, e = .returned (.tuple #[.string ⟨x.toArray⟩, .string ⟨y.toArray⟩]) ∧ x.length ≤ 40 ∧ y.length ≤ 40) ∧ Below w.heap.size w w' := by
  have CON := Lib.hid (d_from a n c xs w hI hn hx)
  clear hI hx hn
  go_enter Tryz.func39, Tryz.ntmps39
  go_wp2_with fail
  refine CON.out.mono ?_
  rintro e w1 ⟨rfl, hS1, hb1⟩
  go_wp2_with fail
  refine (d_word _ _ _ _ _ _ hS1).mono ?_
  rintro e w2 ⟨⟨x, rfl, hl⟩, hS2, O2⟩
  have L2 := Off.below hb1 O2 hb1.size (Nat.le_refl _)
  have hz2 := L2.size
  go_wp2_with fail
  refine (d_word _ _ _ _ _ _ hS2).mono ?_
  rintro e w3 ⟨⟨y, rfl, hl2⟩, hS3, O3⟩
  have L3 := Off.below L2 O3 hz2 (Nat.le_refl _)
  go_wp2_with fail
  go_ret2
  exact ⟨⟨x, y, rfl, hl, hl2⟩, L3⟩
set_option maxRecDepth 100000 in
set_option maxHeartbeats 1000000 in
theorem d_NearestWord (a : Option Addr) (n c : Nat) (xs : List Int) (w : World) (hI : InB w a n xs) (hn : n ≤ 4096) (hx : ∀ i, 0 ≤ xs.getD i 0 ∧ xs.getD i 0 ≤ 255) : Calls Tryz.prog 45 #[.slice a n c] w fun e w' =>
    (∃ (x : List UInt8) (v : Value) (ys : List (List UInt8)) (m : Int), e = .returned (.tuple #[.string ⟨x.toArray⟩, v, .int .i64 m]) ∧ x.length ≤ 40 ∧ OwnS w' w.heap.size v ys ∧ ys.length ≤ 61 ∧ PhrD ys ∧ -1 ≤ m ∧ m ≤ 21) ∧ Below w.heap.size w w' := by
  have CON := Lib.hid (d_from a n c xs w hI hn hx)
  clear hI hx hn
  go_enter Tryz.func45, Tryz.ntmps45
  go_wp2_with fail
  refine CON.out.mono ?_
  rintro e w1 ⟨rfl, hS1, hb1⟩
  go_wp2_with fail
  refine (d_word _ _ _ _ _ _ hS1).mono ?_
  rintro e w2 ⟨⟨x, rfl, hl⟩, hS2, O2⟩
  have L2 := Off.below hb1 O2 hb1.size (Nat.le_refl _)
  have hz2 := L2.size
  have hg2 := hS2.lt
  go_wp2_with fail
  refine (d_phrase _ _ _ _ _ _ hS2).mono ?_
  rintro e w3 ⟨⟨v, ys, rfl, V, hyl, hys⟩, hS3, O3⟩
  have L3 := Off.below L2 O3 hz2 (Nat.le_refl _)
  have hz3 := L3.size
  go_wp2_with fail
  refine (d_next _ _ _ _ _ _ _ hS3).mono ?_
  rintro e w4 ⟨⟨u, rfl, -, hu⟩, hS4, O4⟩
  obtain ⟨u0, u1⟩ := hu (by omega)
  have hw1 : IntKind.i64.wrap (u - 1) = u - 1 := IntWalk.i64_in _ (by omega)
  have V4 := (V.off O4 hg2).alloc (.cells #[.int .i64 0, .int .i64 1, .int .i64 2, .int .i64 3, .int .i64 20, .int .i64 (u - 1)] 2)
  have L4 := Off.below L3 O4 hz3 (Nat.le_refl _)
  have hz4 := L4.size
  have L5 := below_more L4 hz4 (.cells #[.int .i64 0, .int .i64 1, .int .i64 2, .int .i64 3, .int .i64 20, .int .i64 (u - 1)] 2)
  have hz5 := L5.size
  have hg4 := hS4.lt
  clear hu V
  go_wp2_with fail
  refine (d_pick w.heap.size n c w4.heap.size 6 a xs [0, 1, 2, 3, 20, u - 1] _ (hS4.below (below_alloc w4 _)) (by omega) (by simp) (by omega) (by omega) (fun j hj => cellsX (l := [0, 1, 2, 3, 20, u - 1]) (Blk.new w4 _ _) j hj)).mono ?_
  rintro e w6 ⟨⟨j, hj, rfl⟩, hS6, O6⟩
  have hm : -1 ≤ [0, 1, 2, 3, 20, u - 1].getD j 0 ∧ [0, 1, 2, 3, 20, u - 1].getD j 0 ≤ 21 := by
    match j, hj with
    | 0, _ => simp
    | 1, _ => simp
    | 2, _ => simp
    | 3, _ => simp
    | 4, _ => simp
    | 5, _ => simp; omega
  have V6 := V4.off O6 hg2
  have L6 := Off.below L5 O6 hz5 (Nat.le_refl _)
  obtain ⟨m, hmm⟩ : ∃ m, [0, 1, 2, 3, 20, u - 1].getD j 0 = m := ⟨_, rfl⟩
  rw [hmm] at hm ⊢
  clear hmm
  go_wp2_with fail
  refine bodyPost_ret (v := .tuple #[.string ⟨x.toArray⟩, v, .int .i64 m]) (by simp [results, Tryz.results45, go_sem]) rfl ⟨⟨x, v, ys, m, rfl, hl, V6.mono hz2, hyl, hys, hm.1, hm.2⟩, L6⟩
end Go.Proofs.YtelppggliieniaaGreatDoor
