/- The draws of phrases, of their texts, of two phrases. Condition: how the code lies. -/
import Derived.Test.YtmpgokijlikddaaGreatDoorDrawP
import Derived.Test.YtmpgokijlikddaaGreatDoorDmg
import Derived.Test.YtmpgokijlikddaaGreatDoorPhrLaw
namespace Go.Proofs.YtmpgokijlikddaaGreatDoor
open Go.RowKit
set_option maxRecDepth 100000 in
theorem d_PhraseText (a : Option Addr) (n c : Nat) (xs : List Int) (w : World) (hI : InB w a n xs) (hn : n ≤ 4096) (hx : ∀ i, 0 ≤ xs.getD i 0 ∧ xs.getD i 0 ≤ 255) : Calls Tryz.prog 33 #[.slice a n c] w fun e w' =>
    (∃ (v : Value) (ys : List (List UInt8)), e = .returned v ∧ OwnS w' w.heap.size v ys ∧ ys.length ≤ 61 ∧ PhrD ys) ∧ Below w.heap.size w w' := by
  have CON := Lib.hid (d_from a n c xs w hI hn hx)
  clear hI hx hn
  go_enter Tryz.func33, Tryz.ntmps33
  go_wp2_with fail
  refine CON.out.mono ?_
  rintro e w1 ⟨rfl, hS1, hb1⟩
  have hz1 := hb1.size
  go_wp2_with fail
  refine (d_phrase _ _ _ _ _ _ hS1).mono ?_
  rintro e w2 ⟨⟨v, ys, rfl, V, hyl, hys⟩, hS2, O2⟩
  have L2 := Off.below hb1 O2 hz1 (Nat.le_refl _)
  have V' := V.mono hz1
  obtain ⟨-, A, cc, rfl, -⟩ := V.opened
  clear V
  go_wp2_with fail
  go_ret
  exact ⟨⟨_, ys, rfl, V', hyl, hys⟩, L2⟩
set_option maxRecDepth 100000 in
set_option maxHeartbeats 1000000 in
theorem d_SplitPhrase (a : Option Addr) (n c : Nat) (xs : List Int) (w : World) (hI : InB w a n xs) (hn : n ≤ 4096) (hx : ∀ i, 0 ≤ xs.getD i 0 ∧ xs.getD i 0 ≤ 255) : Calls Tryz.prog 36 #[.slice a n c] w fun e w' =>
    (∃ x : List UInt8, e = .returned (.string ⟨x.toArray⟩) ∧ x.length ≤ 2521) ∧ Below w.heap.size w w' := by
  have CON := Lib.hid (d_from a n c xs w hI hn hx)
  clear hI hx hn
  go_enter Tryz.func36, Tryz.ntmps36
  go_wp2_with fail
  refine CON.out.mono ?_
  rintro e w1 ⟨rfl, hS1, hb1⟩
  have hz1 := hb1.size
  go_wp2_with fail
  refine (d_phrase _ _ _ _ _ _ hS1).mono ?_
  rintro e w2 ⟨⟨v, ys, rfl, V, hyl, hys⟩, hS2, O2⟩
  have L2 := Off.below hb1 O2 hz1 (Nat.le_refl _)
  have hz2 := L2.size
  have con := s_PhraseText w2 V hys.get
  have hlen : (phF ys).1.length ≤ 1260 := by
    cases hp : phB ys with
    | true => rw [ph_T hp]; exact join_le hp
    | false => rw [ph_F hp]; simp
  obtain ⟨⟨x, p⟩, hp⟩ : ∃ p, phF ys = p := ⟨_, rfl⟩
  rw [hp] at con hlen
  dsimp only at con hlen
  have PH := Lib.hid con
  obtain ⟨-, A, cc, rfl, -⟩ := V.opened
  clear con hp O2 hb1 hS1 V hys hyl
  go_wp2_with fail
  refine PH.out.mono ?_
  rintro e w3 ⟨rfl, rfl⟩
  go_wp2_with fail
  refine (d_next _ _ _ _ _ _ _ hS2).mono ?_
  rintro e w4 ⟨⟨u, rfl, -, hu⟩, hS4, O4⟩
  obtain ⟨u0, u1⟩ := hu (by omega)
  have L4 := Off.below L2 O4 hz2 (Nat.le_refl _)
  have hz4 := L4.size
  clear hu O4 hS2 PH
  by_cases hu0 : u = 0
  · subst hu0
    go_wp2_with fail
    refine (d_damage _ _ _ _ _ x (by omega) _ hS4).mono ?_
    rintro e w5 ⟨⟨y, rfl, hy⟩, hS5, O5⟩
    have L5 := Off.below L4 O5 hz4 (Nat.le_refl _)
    go_wp2_with fail
    go_ret
    exact ⟨⟨y, rfl, by omega⟩, L5⟩
  · have bu : (u == 0) = false := by simpa using hu0
    go_wp2_with fail
    go_ret
    exact ⟨⟨x, rfl, by omega⟩, L4⟩
set_option maxRecDepth 100000 in
set_option maxHeartbeats 1000000 in
theorem d_SharedWords (a : Option Addr) (n c : Nat) (xs : List Int) (w : World) (hI : InB w a n xs) (hn : n ≤ 4096) (hx : ∀ i, 0 ≤ xs.getD i 0 ∧ xs.getD i 0 ≤ 255) : Calls Tryz.prog 39 #[.slice a n c] w fun e w' =>
    (∃ (v : Value) (ys : List (List UInt8)) (u : Value) (zs : List (List UInt8)), e = .returned (.tuple #[v, u]) ∧ (OwnS w' w.heap.size v ys ∧ ys.length ≤ 61 ∧ PhrD ys) ∧ (OwnS w' w.heap.size u zs ∧ zs.length ≤ 61 ∧ PhrD zs)) ∧ Below w.heap.size w w' := by
  have CON := Lib.hid (d_from a n c xs w hI hn hx)
  clear hI hx hn
  go_enter Tryz.func39, Tryz.ntmps39
  go_wp2_with fail
  refine CON.out.mono ?_
  rintro e w1 ⟨rfl, hS1, hb1⟩
  have hz1 := hb1.size
  have hg1 := hS1.lt
  go_wp2_with fail
  refine (d_phrase _ _ _ _ _ _ hS1).mono ?_
  rintro e w2 ⟨⟨v, ys, rfl, V, hyl, hys⟩, hS2, O2⟩
  have L2 := Off.below hb1 O2 hz1 (Nat.le_refl _)
  have hz2 := L2.size
  clear O2 hb1 hS1
  go_wp2_with fail
  refine (d_phrase _ _ _ _ _ _ hS2).mono ?_
  rintro e w3 ⟨⟨u, zs, rfl, U, hzl, hzs⟩, hS3, O3⟩
  have L3 := Off.below L2 O3 hz2 (Nat.le_refl _)
  have V3 := (V.off O3 hg1).mono hz1
  have U3 := U.mono hz2
  obtain ⟨-, A, cc, rfl, -⟩ := V.opened
  obtain ⟨-, B, dd, rfl, -⟩ := U.opened
  clear V U O3
  go_wp2_with fail
  go_ret2
  exact ⟨⟨_, ys, _, zs, rfl, ⟨V3, hyl, hys⟩, ⟨U3, hzl, hzs⟩⟩, L3⟩
end Go.Proofs.YtmpgokijlikddaaGreatDoor
