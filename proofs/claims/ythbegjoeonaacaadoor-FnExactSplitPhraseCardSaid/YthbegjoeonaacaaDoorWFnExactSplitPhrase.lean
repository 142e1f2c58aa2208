/- The program's SplitPhrase returns what the reference's returns, in new memory, for all texts: the walk. No condition. -/
import Derived.Test.YthbegjoeonaacaaDoorRows
import Derived.Test.YthbegjoeonaacaaDoorKit
import Derived.Test.YthbegjoeonaacaaDoorSplit
import Derived.Test.YthbegjoeonaacaaDoorHeldS
namespace Go.Proofs.YthbegjoeonaacaaDoor.fnExactSplitPhrase
open Go.RowKit
set_option linter.unusedVariables false
-- door
theorem s_SplitPhrase (x : List UInt8) (w : World) (hx : x.length ≤ 1048576) : Calls Tryd.prog 19 #[.string ⟨x.toArray⟩] w fun e w' => ∃ v, e = .returned (.tuple #[v, .int .i64 (spF x).2]) ∧ OwnS w' w.heap.size v (spF x).1 ∧ Below w.heap.size w w' := by
  have con := s_split x w hx
  cases x with
  | nil =>
    have hF : spF [] = ([], 0) := rfl
    rw [hF]
    clear con
    go_enter Tryd.func19, Tryd.ntmps19
    go_wp2_with fail
    go_ret2
    exact ⟨_, rfl, by simpa using OwnS.lit w w.heap.size #[] [] rfl (Nat.le_refl _) (by unfold maxLen; simp), below_alloc _ _⟩
  | cons c0 x0 =>
    have hne : (c0 :: x0) ≠ [] := by simp
    obtain ⟨x, hxx⟩ : ∃ x, c0 :: x0 = x := ⟨_, rfl⟩
    rw [hxx] at con hx hne ⊢
    have hse := spl_each 32 x
    have hse' : ∀ i, ((spl 32 x).getD i []).length ≤ 9223372036854775807 := fun i => by
      by_cases hi : i < (spl 32 x).length
      · have := hse (spl 32 x)[i] (List.getElem_mem hi)
        rw [show (spl 32 x).getD i [] = (spl 32 x)[i] by simp [List.getD, hi]]; omega
      · rw [List.getD_eq_getElem?_getD, List.getElem?_eq_none (by omega)]; simp
    have con2 := fun (b : Nat) (v : Value) W (h : OwnS W b v (spl 32 x)) => s_phrase W h hse'
    have he0 : x.isEmpty = false := by rw [← hxx]; rfl
    cases hp : phB (spl 32 x) with
    | true =>
      have hF : spF x = (spl 32 x, 0) := by unfold spF; rw [if_neg hne, hp]; rfl
      rw [hF]
      have con3 := fun b v W h => toB (con2 b v W h) hp
      have CON := Lib.hid con
      have CON2 := Lib.hid con3
      obtain ⟨l, hl⟩ : ∃ l, spl 32 x = l := ⟨_, rfl⟩
      rw [hl] at CON CON2 ⊢
      clear con con2 con3 hse hse' hp hl hF hxx
      go_enter Tryd.func19, Tryd.ntmps19
      go_wp2_with fail
      refine CON.out.mono ?_
      rintro e w1 ⟨v, rfl, ho, hb⟩
      obtain ⟨hl0, A0, c1, rfl, _⟩ := ho.opened
      go_wp2_with fail
      refine (CON2.out _ _ _ ho).mono ?_
      rintro e w2 ⟨rfl, rfl⟩
      go_wp2_with fail
      go_ret2
      exact ⟨_, rfl, ho, hb⟩
    | false =>
      have hF : spF x = ([], 6) := by unfold spF; rw [if_neg hne, hp]; rfl
      rw [hF]
      have con3 := fun b v W h => toB (con2 b v W h) hp
      have CON := Lib.hid con
      have CON2 := Lib.hid con3
      obtain ⟨l, hl⟩ : ∃ l, spl 32 x = l := ⟨_, rfl⟩
      rw [hl] at CON CON2
      clear con con2 con3 hse hse' hp hl hF hxx
      go_enter Tryd.func19, Tryd.ntmps19
      go_wp2_with fail
      refine CON.out.mono ?_
      rintro e w1 ⟨v, rfl, ho, hb⟩
      obtain ⟨hl0, A0, c1, rfl, _⟩ := ho.opened
      go_wp2_with fail
      refine (CON2.out _ _ _ ho).mono ?_
      rintro e w2 ⟨rfl, rfl⟩
      go_wp2_with fail
      go_ret2
      exact ⟨_, rfl, OwnS.nil _ _, hb⟩
set_option maxRecDepth 100000 in
theorem walk (s : ByteArray) (ws : s.size ≤ maxLen) (w : World) (hsh : w.ShapedOpen Tryd.prog) : Calls Tryd.prog 5 #[.string s] w fun e w' => e = .returned (.bool true) ∧ Below w.heap.size w w' := by
  have HM : Hid (MaxOk w) := Tryd.laysM146.s1_3 w hsh
  have HML := Lib.hid HM.out.lt
  clear hsh
  obtain ⟨x, rfl, hx⟩ : ∃ x : List UInt8, s = ⟨x.toArray⟩ ∧ x.length = s.size := ⟨s.data.toList, by simp, rfl⟩
  have hs : (⟨x.toArray⟩ : ByteArray).size ≤ 9223372036854775807 := ws
  rw [← hx] at hs
  clear ws hx
  by_cases hbig : 1048576 < x.length
  · go_enter Tryd.func5, Tryd.ntmps5
    go_wp2_with fail
    go_ret
    exact ⟨rfl, Below.refl _ _⟩
  · have hb' : (x.length : Int) ≤ 1048576 := by omega
    have sc := fun W => s_SplitPhrase x W (by omega)
    have ic := fun W h => i_SplitPhrase x W h (by omega)
    have hlen : (spF x).1.length ≤ 1048577 := by
      have := spl_len 32 x
      unfold spF; repeat' split
      all_goals (first | omega | (simp; done) | (simp; omega))
    clear hbig
    obtain ⟨p, hp⟩ : ∃ p, spF x = p := ⟨_, rfl⟩
    rw [hp] at sc ic hlen
    clear hp
    obtain ⟨ys, b⟩ := p
    have SC := Lib.hid sc; clear sc
    have IC := Lib.hid ic; clear ic
    have EQ := Lib.hid (fun (b1 b2 : Nat) (v1 v2 : Value) W (h1 : OwnS W b1 v1 ys) (h2 : OwnS W b2 v2 ys) => l_eqStringS W h1 h2)
    have MK := Lib.hid (fun (b1 : Nat) (v1 : Value) W (h1 : OwnS W b1 v1 ys) => markS W h1 hlen)
    have HD := Lib.hid (fun (b1 : Nat) (v1 : Value) W (h1 : OwnS W b1 v1 (mks ys.length)) => heldS W h1 hlen)
    have hlen' : (ys.length : Int) ≤ 1048577 := by have : ys.length ≤ 1048577 := hlen; omega
    clear hlen
    obtain ⟨n, hn⟩ : ∃ n, ys.length = n := ⟨_, rfl⟩
    rw [hn] at MK HD hlen'
    clear hn
    go_enter Tryd.func5, Tryd.ntmps5
    go_wp2_with fail
    refine (SC.out _).mono ?_
    rintro e w1 ⟨v1, rfl, o1, hb1⟩
    have HM1 : Hid (MaxOk w1) := HM.out.below hb1
    go_wp2_with fail
    refine (IC.out _ HM1.out).mono ?_
    rintro e w2 ⟨v2, rfl, o2, hb2⟩
    have hne := own_neS o1 o2 (Nat.le_refl _)
    have o1 := o1.below hb2
    have hz1 := hb1.size
    have hz2 := hb2.size
    have L2 := below_step hb1 hb2
    go_wp2_with fail
    refine (EQ.out _ _ _ _ _ o2 o1).mono ?_
    rintro e w3 ⟨rfl, q, rfl⟩
    have o1 := o1.drewN q
    have o2 := o2.drewN q
    have L2 := below_drewN L2 q
    have hz3 : w1.heap.size ≤ (w2.drewN q).heap.size := hz2
    have HM2 : Hid (MaxOk (w2.drewN q)) := (HM1.out.below hb2).drewN q
    clear hb1 hb2 HM HM1
    generalize w2.drewN q = ws at *
    go_wp2_with fail
    refine (MK.out _ _ _ o2).mono ?_
    rintro e w4 ⟨rfl, o4, g4⟩
    have L4 : Below w.heap.size w w4 := L2.grown g4 (by omega) fun k hk => by have := (o2.lt k hk).1; omega
    have p1 := o1.kept g4 hne
    have hz4 := g4.size
    have HM4 : Hid (MaxOk w4) := by
      obtain ⟨m, hm⟩ := HM2.out
      refine Lib.hid ⟨m, ?_⟩
      have hl4 : 0 < w.heap.size := HML.out
      have hb := L4.cell (p := ⟨0, 0, none⟩) hl4
      have ha := L2.cell (p := ⟨0, 0, none⟩) hl4
      exact hb.trans (ha.symm.trans hm)
    clear g4 o1 o2 hne HM2
    go_wp2_with fail
    refine (HD.out _ _ _ o4).mono ?_
    rintro e w5 ⟨rfl, hb5⟩
    have HM5 : Hid (MaxOk w5) := HM4.out.below hb5
    have p1 := p1.below hb5
    have o5 := o4.below hb5
    have L5 := L4.trans (hb5.mono (by omega))
    have hz5 := hb5.size
    go_wp2_with fail
    refine (IC.out _ HM5.out).mono ?_
    rintro e w6 ⟨v3, rfl, o6, hb6⟩
    have p1 := p1.below hb6
    have o5 := o5.below hb6
    have hz6 := hb6.size
    have L6 := L5.trans (hb6.mono (by omega))
    go_wp2_with fail
    refine (EQ.out _ _ _ _ _ o6 p1).mono ?_
    rintro e w7 ⟨rfl, q7, rfl⟩
    have o5 := o5.drewN q7
    have L7 := below_drewN L6 q7
    have hz7 : w6.heap.size ≤ (w6.drewN q7).heap.size := Nat.le_refl _
    clear hb5 hb6 o6 p1 o4 HM4 HM5 L2 L4 L5 L6
    generalize w6.drewN q7 = wt at *
    go_wp2_with fail
    refine (HD.out _ _ _ o5).mono ?_
    rintro e w8 ⟨rfl, hb8⟩
    go_wp2_with fail
    go_ret
    exact ⟨rfl, L7.trans (hb8.mono (by omega))⟩
end Go.Proofs.YthbegjoeonaacaaDoor.fnExactSplitPhrase
