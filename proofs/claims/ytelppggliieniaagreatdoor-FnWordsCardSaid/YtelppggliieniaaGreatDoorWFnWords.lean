/- Distances are symmetric and keep the triangle, and alike words have no distance between their normal forms: the walk. No condition. -/
import Derived.Test.YtelppggliieniaaGreatDoorRows
import Derived.Test.YtelppggliieniaaGreatDoorKit
import Derived.Test.YtelppggliieniaaGreatDoorDrawX
import Derived.Test.YtelppggliieniaaGreatDoorWDist
import Derived.Test.YtelppggliieniaaGreatDoorAlk
import Derived.Test.YtelppggliieniaaGreatDoorNrw
import Derived.Test.YtelppggliieniaaGreatDoorLevP
import Derived.Test.YtelppggliieniaaGreatDoorMem
import Derived.OpenShut
namespace Go.Proofs.YtelppggliieniaaGreatDoor.fnWords
open Go.RowKit
set_option linter.unusedVariables false
-- door
theorem l_bigW (a : Option Addr) (n c : Nat) (w : World) : Calls Tryz.prog 11 #[.slice a n c] w fun e w' => e = .returned (.bool (decide ((4096 : Int) < n))) ∧ Below w.heap.size w w' := by
  go_enter Tryz.func11, Tryz.ntmps11
  go_wp2_with fail
  go_ret
  exact ⟨rfl, Below.refl _ _⟩
theorem wa_law {x y : List UInt8} {D B : Int} {G : Bool} {B' : Int} (h : wdF x y = (D, B)) (h2 : alF x y = (G, B')) : B' = B ∧ ((B = 0 ∧ wordB x = true ∧ wordB y = true ∧ D = dist x y ∧ G = alB x y) ∨ B = 1) := by
  cases hx : wordB x with
  | false =>
    rw [wdF_F1 hx] at h
    rw [alF_F (by rw [hx]; rfl)] at h2
    injection h with _ h; injection h2 with _ h2
    exact ⟨by omega, .inr h.symm⟩
  | true =>
    cases hy : wordB y with
    | false =>
      rw [wdF_F2 hy] at h
      rw [alF_F (by rw [hy, Bool.and_false])] at h2
      injection h with _ h; injection h2 with _ h2
      exact ⟨by omega, .inr h.symm⟩
    | true =>
      rw [wdF_T hx hy] at h
      rw [alF_T hx hy] at h2
      injection h with h3 h; injection h2 with h4 h2
      exact ⟨by omega, .inl ⟨h.symm, rfl, rfl, h3.symm, h4.symm⟩⟩
theorem nw_law {x : List UInt8} {N : List UInt8} {C : Int} (h : nmF x = (N, C)) : (C = 0 ∧ wordB x = true) ∨ (C = 1 ∧ wordB x = false) := by
  cases hx : wordB x with
  | false => rw [nmF_F hx] at h; injection h with _ h; exact .inr ⟨h.symm, rfl⟩
  | true => rw [nmF_T hx] at h; injection h with _ h; exact .inl ⟨h.symm, rfl⟩
theorem ne_law {s : List UInt8} {ys : List (List UInt8)} {m i k E : Int} (h : neF s ys m = (i, k, E)) : E = 0 → k ≤ m := by
  rintro rfl
  unfold neF at h
  split at h
  · split at h
    · rename_i hm
      obtain ⟨m0, m1⟩ := inB_iff.1 hm
      have := nrK_bd (s := s) (xs := ys) (most := m) m0 ys.length
      split at h
      · simp at h
      · rename_i hq
        injection h with h1 h; injection h with h2 h
        rw [← h2]
        exact this.2.2 (by omega)
    · simp at h
  · simp at h
set_option maxRecDepth 100000 in
set_option maxHeartbeats 4000000 in
theorem walk (a : Option Addr) (n c : Nat) (xs : List Int) (hn : n ≤ 9223372036854775807) {w : World} (hI : InB w a n xs) (hx : ∀ i, 0 ≤ xs.getD i 0 ∧ xs.getD i 0 ≤ 255) (_ : World) (_ : w.ShapedOpen Tryz.prog) : Calls Tryz.prog 7 #[.slice a n c] w fun e w' => e = .returned (.bool true) ∧ Below w.heap.size w w' := by
  have con := l_bigW a n c w
  by_cases hbig : (4096 : Int) < n
  · simp only [hbig, decide_true] at con
    go_enter Tryz.func7, Tryz.ntmps7
    go_wp2_with fail
    refine con.mono ?_
    rintro e w1 ⟨rfl, L1⟩
    go_wp2_with fail
    go_ret
    exact ⟨rfl, L1⟩
  · simp only [hbig, decide_false] at con
    have hn' : n ≤ 4096 := by omega
    have hIB : ∀ W : World, Below w.heap.size w W → InB W a n xs := fun W h => hI.below h
    have HIB := Lib.hid hIB
    have HX := Lib.hid hx
    clear hIB hx hI
    go_enter Tryz.func7, Tryz.ntmps7
    go_wp2_with fail
    refine con.mono ?_
    rintro e w1 ⟨rfl, L⟩
    clear con hbig
    go_wp2_with fail
    refine (d_WordDistance a n c xs _ (HIB.out _ L) hn' HX.out).mono ?_
    rintro e w2 ⟨⟨x, y, rfl, hx1, hy1⟩, hb⟩
    replace L := below_step L hb
    clear hb
    have iw := fun W => i_WordDistance x y W (by omega) (by omega)
    have sw := fun W => s_WordDistance x y W (by omega) (by omega)
    have ia := fun W => i_AreAlike x y W (by omega) (by omega)
    have sa := fun W => s_AreAlike x y W (by omega) (by omega)
    obtain ⟨⟨D, B⟩, hD⟩ : ∃ p, wdF x y = p := ⟨_, rfl⟩
    obtain ⟨⟨G, B'⟩, hG⟩ : ∃ p, alF x y = p := ⟨_, rfl⟩
    obtain ⟨rfl, hcase⟩ := wa_law hD hG
    rw [hD] at iw sw
    rw [hG] at ia sa
    dsimp only at iw sw ia sa
    have IW := Lib.hid iw
    have SW := Lib.hid sw
    have IA := Lib.hid ia
    have SA := Lib.hid sa
    have CASE := Lib.hid hcase
    clear iw sw ia sa hD hG hcase
    go_wp2_with fail
    refine (IW.out _).mono ?_
    rintro e w3 ⟨rfl, hb⟩
    replace L := below_step L hb
    clear hb IW
    go_wp2_with fail
    refine (SW.out _).mono ?_
    rintro e w4 ⟨rfl, hb⟩
    replace L := below_step L hb
    clear hb SW
    go_wp2_with fail
    refine (IA.out _).mono ?_
    rintro e w5 ⟨rfl, hb⟩
    replace L := below_step L hb
    clear hb IA
    go_wp2_with fail
    refine (SA.out _).mono ?_
    rintro e w6 ⟨rfl, hb⟩
    replace L := below_step L hb
    clear hb SA
    go_wp2_with fail
    refine (d_NormalWord a n c xs _ (HIB.out _ L) hn' HX.out).mono ?_
    rintro e w7 ⟨⟨z, rfl, hz1⟩, hb⟩
    replace L := below_step L hb
    clear hb
    have is := fun W => i_NormalWord z W (by omega)
    have ss := fun W => s_NormalWord z W (by omega)
    obtain ⟨⟨N, C⟩, hN⟩ : ∃ p, nmF z = p := ⟨_, rfl⟩
    have NC := Lib.hid (nw_law hN)
    rw [hN] at is ss
    dsimp only at is ss
    have IS := Lib.hid is
    have SS := Lib.hid ss
    clear is ss hN
    go_wp2_with fail
    refine (IS.out _).mono ?_
    rintro e w8 ⟨rfl, hb⟩
    replace L := below_step L hb
    clear hb IS
    go_wp2_with fail
    refine (SS.out _).mono ?_
    rintro e w9 ⟨rfl, hb⟩
    replace L := below_step L hb
    clear hb SS
    go_wp2_with fail
    refine (d_NearestWord a n c xs _ (HIB.out _ L) hn' HX.out).mono ?_
    rintro e w10 ⟨⟨s, v, ys, m, rfl, hs1, V, hyl, hys, m0, m1⟩, hb⟩
    replace L := below_step L hb
    clear hb HIB HX
    obtain ⟨-, A1, c1, rfl, -⟩ := V.opened
    have is := fun W (h : OwnS W w9.heap.size (.slice A1 ys.length c1) ys) => i_NearestWord s m W h (by omega) hys.get
    have ss := fun W (h : OwnS W w9.heap.size (.slice A1 ys.length c1) ys) => s_NearestWord s m W h (by omega) hys.get
    obtain ⟨⟨I, K, E⟩, hE⟩ : ∃ p, neF s ys m = p := ⟨_, rfl⟩
    have NE := Lib.hid (ne_law hE)
    rw [hE] at is ss
    dsimp only at is ss
    have IS := Lib.hid is
    have SS := Lib.hid ss
    clear is ss hE hys
    obtain ⟨yn, hyn⟩ : ∃ yn, ys.length = yn := ⟨_, rfl⟩
    rw [hyn] at IS SS V hyl ⊢
    clear hyn
    go_wp2_with fail
    refine (IS.out _ V).mono ?_
    rintro e w11 ⟨rfl, hb⟩
    replace L := below_step L hb
    replace V := V.below hb
    clear hb IS
    go_wp2_with fail
    refine (SS.out _ V).mono ?_
    rintro e w12 ⟨rfl, hb⟩
    replace L := below_step L hb
    clear hb SS V
    have ic := fun W => i_IsWord ⟨z.toArray⟩ W (show z.length ≤ 9223372036854775807 by omega)
    rcases NC.out with ⟨rfl, hwc⟩ | ⟨rfl, hwc⟩
    · have IC := Lib.hid (fun W => toBelowB (ic W) hwc)
      clear NC ic
      rcases CASE.out with ⟨rfl, hwx, hwy, hDx, hGx⟩ | rfl
      · clear CASE
        have ib := fun W => i_WordDistance y x W (by omega) (by omega)
        rw [wdF_T hwy hwx, dist_sym y x, ← hDx] at ib
        have nx := fun W => i_NormalWord x W (by omega)
        have ny := fun W => i_NormalWord y W (by omega)
        rw [nmF_T hwx] at nx
        rw [nmF_T hwy] at ny
        have hDb := dist_bd x y
        have we := fun W => i_WordDistance y z W (by omega) (by omega)
        have wf := fun W => i_WordDistance x z W (by omega) (by omega)
        rw [wdF_T hwy hwc] at we
        rw [wdF_T hwx hwc] at wf
        have tri := dist_tri x y z
        have hb1 := dist_bd y z
        have hb2 := dist_bd x z
        rw [← hDx] at tri
        obtain ⟨e1, he1⟩ : ∃ e, dist y z = e := ⟨_, rfl⟩
        obtain ⟨f1, hf1⟩ : ∃ e, dist x z = e := ⟨_, rfl⟩
        rw [he1] at we tri hb1
        rw [hf1] at wf tri hb2
        have WE := Lib.hid we
        have WF := Lib.hid wf
        clear we wf he1 hf1 hwc
        have h0 := dist_zero (a := x) (b := y)
        rw [← hDx] at h0 hDb
        dsimp only at ib nx ny
        have IB := Lib.hid ib
        have NX := Lib.hid nx
        have NY := Lib.hid ny
        unfold alB at hGx
        clear ib nx ny hwx hwy hDx
        by_cases hxy : x = y
        · obtain rfl : D = 0 := h0.2 hxy
          subst hxy
          rw [decide_eq_true (rfl : nmL x = nmL x)] at hGx
          subst hGx
          clear h0
          obtain ⟨nl, hnl⟩ : ∃ nl, nmL x = nl := ⟨_, rfl⟩
          rw [hnl] at NX NY
          clear hnl
          have tri1 : f1 ≤ e1 := by omega
          by_cases hE : E = 0
          · as_aux_lemma =>
              have hk := NE.out hE
              subst hE
              clear NE
              go_wp2_with fail
              refine (IC.out _).mono ?_
              rintro e wq ⟨rfl, hb⟩
              replace L := below_step L hb
              clear hb
              go_wp2_with fail
              refine (IB.out _).mono ?_
              rintro e wq ⟨rfl, hb⟩
              replace L := below_step L hb
              clear hb
              go_wp2_with fail
              refine (NX.out _).mono ?_
              rintro e wq ⟨rfl, hb⟩
              replace L := below_step L hb
              clear hb
              go_wp2_with fail
              refine (NY.out _).mono ?_
              rintro e wq ⟨rfl, hb⟩
              replace L := below_step L hb
              clear hb
              go_wp2_with fail
              refine (IC.out _).mono ?_
              rintro e wq ⟨rfl, hb⟩
              replace L := below_step L hb
              clear hb
              go_wp2_with fail
              refine (WE.out _).mono ?_
              rintro e wq ⟨rfl, hb⟩
              replace L := below_step L hb
              clear hb
              go_wp2_with fail
              refine (WF.out _).mono ?_
              rintro e wq ⟨rfl, hb⟩
              replace L := below_step L hb
              clear hb
              go_wp2_with fail
              go_ret
              exact ⟨rfl, L⟩
          · as_aux_lemma =>
              have hEb : (E == 0) = false := by simpa using hE
              clear NE
              go_wp2_with fail
              refine (IC.out _).mono ?_
              rintro e wq ⟨rfl, hb⟩
              replace L := below_step L hb
              clear hb
              go_wp2_with fail
              refine (IB.out _).mono ?_
              rintro e wq ⟨rfl, hb⟩
              replace L := below_step L hb
              clear hb
              go_wp2_with fail
              refine (NX.out _).mono ?_
              rintro e wq ⟨rfl, hb⟩
              replace L := below_step L hb
              clear hb
              go_wp2_with fail
              refine (NY.out _).mono ?_
              rintro e wq ⟨rfl, hb⟩
              replace L := below_step L hb
              clear hb
              go_wp2_with fail
              refine (IC.out _).mono ?_
              rintro e wq ⟨rfl, hb⟩
              replace L := below_step L hb
              clear hb
              go_wp2_with fail
              refine (WE.out _).mono ?_
              rintro e wq ⟨rfl, hb⟩
              replace L := below_step L hb
              clear hb
              go_wp2_with fail
              refine (WF.out _).mono ?_
              rintro e wq ⟨rfl, hb⟩
              replace L := below_step L hb
              clear hb
              go_wp2_with fail
              go_ret
              exact ⟨rfl, L⟩
        · have hD0 : ¬ D = 0 := fun e => hxy (h0.1 e)
          have hDp : 0 < D := by omega
          have hDe : (D == 0) = false := by simpa using hD0
          have s2 : decide (x = y) = false := by simpa using hxy
          have s3 : decide ((⟨x.toArray⟩ : ByteArray) = ⟨y.toArray⟩) = false := by simpa using hxy
          have s4 : (x == y) = false := by simpa using hxy
          clear h0
          obtain ⟨n1, hn1⟩ : ∃ nl, nmL x = nl := ⟨_, rfl⟩
          obtain ⟨n2, hn2⟩ : ∃ nl, nmL y = nl := ⟨_, rfl⟩
          rw [hn1] at NX hGx
          rw [hn2] at NY hGx
          clear hn1 hn2
          by_cases hnn : n1 = n2
          · subst hnn
            rw [decide_eq_true (rfl : n1 = n1)] at hGx
            subst hGx
            by_cases hE : E = 0
            · as_aux_lemma =>
                have hk := NE.out hE
                subst hE
                clear NE
                go_wp2_with fail
                refine (IC.out _).mono ?_
                rintro e wq ⟨rfl, hb⟩
                replace L := below_step L hb
                clear hb
                go_wp2_with fail
                refine (IB.out _).mono ?_
                rintro e wq ⟨rfl, hb⟩
                replace L := below_step L hb
                clear hb
                go_wp2_with fail
                refine (NX.out _).mono ?_
                rintro e wq ⟨rfl, hb⟩
                replace L := below_step L hb
                clear hb
                go_wp2_with fail
                refine (NY.out _).mono ?_
                rintro e wq ⟨rfl, hb⟩
                replace L := below_step L hb
                clear hb
                go_wp2_with fail
                refine (IC.out _).mono ?_
                rintro e wq ⟨rfl, hb⟩
                replace L := below_step L hb
                clear hb
                go_wp2_with fail
                refine (WE.out _).mono ?_
                rintro e wq ⟨rfl, hb⟩
                replace L := below_step L hb
                clear hb
                go_wp2_with fail
                refine (WF.out _).mono ?_
                rintro e wq ⟨rfl, hb⟩
                replace L := below_step L hb
                clear hb
                go_wp2_with fail
                go_ret
                exact ⟨rfl, L⟩
            · as_aux_lemma =>
                have hEb : (E == 0) = false := by simpa using hE
                clear NE
                go_wp2_with fail
                refine (IC.out _).mono ?_
                rintro e wq ⟨rfl, hb⟩
                replace L := below_step L hb
                clear hb
                go_wp2_with fail
                refine (IB.out _).mono ?_
                rintro e wq ⟨rfl, hb⟩
                replace L := below_step L hb
                clear hb
                go_wp2_with fail
                refine (NX.out _).mono ?_
                rintro e wq ⟨rfl, hb⟩
                replace L := below_step L hb
                clear hb
                go_wp2_with fail
                refine (NY.out _).mono ?_
                rintro e wq ⟨rfl, hb⟩
                replace L := below_step L hb
                clear hb
                go_wp2_with fail
                refine (IC.out _).mono ?_
                rintro e wq ⟨rfl, hb⟩
                replace L := below_step L hb
                clear hb
                go_wp2_with fail
                refine (WE.out _).mono ?_
                rintro e wq ⟨rfl, hb⟩
                replace L := below_step L hb
                clear hb
                go_wp2_with fail
                refine (WF.out _).mono ?_
                rintro e wq ⟨rfl, hb⟩
                replace L := below_step L hb
                clear hb
                go_wp2_with fail
                go_ret
                exact ⟨rfl, L⟩
          · rw [decide_eq_false hnn] at hGx
            subst hGx
            have t2 : decide (n1 = n2) = false := by simpa using hnn
            have t3 : decide ((⟨n1.toArray⟩ : ByteArray) = ⟨n2.toArray⟩) = false := by simpa using hnn
            have t4 : (n1 == n2) = false := by simpa using hnn
            by_cases hE : E = 0
            · as_aux_lemma =>
                have hk := NE.out hE
                subst hE
                clear NE
                go_wp2_with fail
                refine (IC.out _).mono ?_
                rintro e wq ⟨rfl, hb⟩
                replace L := below_step L hb
                clear hb
                go_wp2_with fail
                refine (IB.out _).mono ?_
                rintro e wq ⟨rfl, hb⟩
                replace L := below_step L hb
                clear hb
                go_wp2_with fail
                refine (NX.out _).mono ?_
                rintro e wq ⟨rfl, hb⟩
                replace L := below_step L hb
                clear hb
                go_wp2_with fail
                refine (NY.out _).mono ?_
                rintro e wq ⟨rfl, hb⟩
                replace L := below_step L hb
                clear hb
                go_wp2_with fail
                refine (IC.out _).mono ?_
                rintro e wq ⟨rfl, hb⟩
                replace L := below_step L hb
                clear hb
                go_wp2_with fail
                refine (WE.out _).mono ?_
                rintro e wq ⟨rfl, hb⟩
                replace L := below_step L hb
                clear hb
                go_wp2_with fail
                refine (WF.out _).mono ?_
                rintro e wq ⟨rfl, hb⟩
                replace L := below_step L hb
                clear hb
                go_wp2_with fail
                go_ret
                exact ⟨rfl, L⟩
            · as_aux_lemma =>
                have hEb : (E == 0) = false := by simpa using hE
                clear NE
                go_wp2_with fail
                refine (IC.out _).mono ?_
                rintro e wq ⟨rfl, hb⟩
                replace L := below_step L hb
                clear hb
                go_wp2_with fail
                refine (IB.out _).mono ?_
                rintro e wq ⟨rfl, hb⟩
                replace L := below_step L hb
                clear hb
                go_wp2_with fail
                refine (NX.out _).mono ?_
                rintro e wq ⟨rfl, hb⟩
                replace L := below_step L hb
                clear hb
                go_wp2_with fail
                refine (NY.out _).mono ?_
                rintro e wq ⟨rfl, hb⟩
                replace L := below_step L hb
                clear hb
                go_wp2_with fail
                refine (IC.out _).mono ?_
                rintro e wq ⟨rfl, hb⟩
                replace L := below_step L hb
                clear hb
                go_wp2_with fail
                refine (WE.out _).mono ?_
                rintro e wq ⟨rfl, hb⟩
                replace L := below_step L hb
                clear hb
                go_wp2_with fail
                refine (WF.out _).mono ?_
                rintro e wq ⟨rfl, hb⟩
                replace L := below_step L hb
                clear hb
                go_wp2_with fail
                go_ret
                exact ⟨rfl, L⟩
      · clear CASE
        by_cases hE : E = 0
        · as_aux_lemma =>
            have hk := NE.out hE
            subst hE
            clear NE
            go_wp2_with fail
            refine (IC.out _).mono ?_
            rintro e wq ⟨rfl, hb⟩
            replace L := below_step L hb
            clear hb
            go_wp2_with fail
            go_ret
            exact ⟨rfl, L⟩
        · as_aux_lemma =>
            have hEb : (E == 0) = false := by simpa using hE
            clear NE
            go_wp2_with fail
            refine (IC.out _).mono ?_
            rintro e wq ⟨rfl, hb⟩
            replace L := below_step L hb
            clear hb
            go_wp2_with fail
            go_ret
            exact ⟨rfl, L⟩
    · have IC := Lib.hid (fun W => toBelowB (ic W) hwc)
      clear NC ic
      rcases CASE.out with ⟨rfl, hwx, hwy, hDx, hGx⟩ | rfl
      · clear CASE
        have ib := fun W => i_WordDistance y x W (by omega) (by omega)
        rw [wdF_T hwy hwx, dist_sym y x, ← hDx] at ib
        have nx := fun W => i_NormalWord x W (by omega)
        have ny := fun W => i_NormalWord y W (by omega)
        rw [nmF_T hwx] at nx
        rw [nmF_T hwy] at ny
        have hDb := dist_bd x y
        have h0 := dist_zero (a := x) (b := y)
        rw [← hDx] at h0 hDb
        dsimp only at ib nx ny
        have IB := Lib.hid ib
        have NX := Lib.hid nx
        have NY := Lib.hid ny
        unfold alB at hGx
        clear ib nx ny hwx hwy hDx
        by_cases hxy : x = y
        · obtain rfl : D = 0 := h0.2 hxy
          subst hxy
          rw [decide_eq_true (rfl : nmL x = nmL x)] at hGx
          subst hGx
          clear h0
          obtain ⟨nl, hnl⟩ : ∃ nl, nmL x = nl := ⟨_, rfl⟩
          rw [hnl] at NX NY
          clear hnl
          by_cases hE : E = 0
          · as_aux_lemma =>
              have hk := NE.out hE
              subst hE
              clear NE
              go_wp2_with fail
              refine (IC.out _).mono ?_
              rintro e wq ⟨rfl, hb⟩
              replace L := below_step L hb
              clear hb
              go_wp2_with fail
              refine (IB.out _).mono ?_
              rintro e wq ⟨rfl, hb⟩
              replace L := below_step L hb
              clear hb
              go_wp2_with fail
              refine (NX.out _).mono ?_
              rintro e wq ⟨rfl, hb⟩
              replace L := below_step L hb
              clear hb
              go_wp2_with fail
              refine (NY.out _).mono ?_
              rintro e wq ⟨rfl, hb⟩
              replace L := below_step L hb
              clear hb
              go_wp2_with fail
              refine (IC.out _).mono ?_
              rintro e wq ⟨rfl, hb⟩
              replace L := below_step L hb
              clear hb
              go_wp2_with fail
              go_ret
              exact ⟨rfl, L⟩
          · as_aux_lemma =>
              have hEb : (E == 0) = false := by simpa using hE
              clear NE
              go_wp2_with fail
              refine (IC.out _).mono ?_
              rintro e wq ⟨rfl, hb⟩
              replace L := below_step L hb
              clear hb
              go_wp2_with fail
              refine (IB.out _).mono ?_
              rintro e wq ⟨rfl, hb⟩
              replace L := below_step L hb
              clear hb
              go_wp2_with fail
              refine (NX.out _).mono ?_
              rintro e wq ⟨rfl, hb⟩
              replace L := below_step L hb
              clear hb
              go_wp2_with fail
              refine (NY.out _).mono ?_
              rintro e wq ⟨rfl, hb⟩
              replace L := below_step L hb
              clear hb
              go_wp2_with fail
              refine (IC.out _).mono ?_
              rintro e wq ⟨rfl, hb⟩
              replace L := below_step L hb
              clear hb
              go_wp2_with fail
              go_ret
              exact ⟨rfl, L⟩
        · have hD0 : ¬ D = 0 := fun e => hxy (h0.1 e)
          have hDp : 0 < D := by omega
          have hDe : (D == 0) = false := by simpa using hD0
          have s2 : decide (x = y) = false := by simpa using hxy
          have s3 : decide ((⟨x.toArray⟩ : ByteArray) = ⟨y.toArray⟩) = false := by simpa using hxy
          have s4 : (x == y) = false := by simpa using hxy
          clear h0
          obtain ⟨n1, hn1⟩ : ∃ nl, nmL x = nl := ⟨_, rfl⟩
          obtain ⟨n2, hn2⟩ : ∃ nl, nmL y = nl := ⟨_, rfl⟩
          rw [hn1] at NX hGx
          rw [hn2] at NY hGx
          clear hn1 hn2
          by_cases hnn : n1 = n2
          · subst hnn
            rw [decide_eq_true (rfl : n1 = n1)] at hGx
            subst hGx
            by_cases hE : E = 0
            · as_aux_lemma =>
                have hk := NE.out hE
                subst hE
                clear NE
                go_wp2_with fail
                refine (IC.out _).mono ?_
                rintro e wq ⟨rfl, hb⟩
                replace L := below_step L hb
                clear hb
                go_wp2_with fail
                refine (IB.out _).mono ?_
                rintro e wq ⟨rfl, hb⟩
                replace L := below_step L hb
                clear hb
                go_wp2_with fail
                refine (NX.out _).mono ?_
                rintro e wq ⟨rfl, hb⟩
                replace L := below_step L hb
                clear hb
                go_wp2_with fail
                refine (NY.out _).mono ?_
                rintro e wq ⟨rfl, hb⟩
                replace L := below_step L hb
                clear hb
                go_wp2_with fail
                refine (IC.out _).mono ?_
                rintro e wq ⟨rfl, hb⟩
                replace L := below_step L hb
                clear hb
                go_wp2_with fail
                go_ret
                exact ⟨rfl, L⟩
            · as_aux_lemma =>
                have hEb : (E == 0) = false := by simpa using hE
                clear NE
                go_wp2_with fail
                refine (IC.out _).mono ?_
                rintro e wq ⟨rfl, hb⟩
                replace L := below_step L hb
                clear hb
                go_wp2_with fail
                refine (IB.out _).mono ?_
                rintro e wq ⟨rfl, hb⟩
                replace L := below_step L hb
                clear hb
                go_wp2_with fail
                refine (NX.out _).mono ?_
                rintro e wq ⟨rfl, hb⟩
                replace L := below_step L hb
                clear hb
                go_wp2_with fail
                refine (NY.out _).mono ?_
                rintro e wq ⟨rfl, hb⟩
                replace L := below_step L hb
                clear hb
                go_wp2_with fail
                refine (IC.out _).mono ?_
                rintro e wq ⟨rfl, hb⟩
                replace L := below_step L hb
                clear hb
                go_wp2_with fail
                go_ret
                exact ⟨rfl, L⟩
          · rw [decide_eq_false hnn] at hGx
            subst hGx
            have t2 : decide (n1 = n2) = false := by simpa using hnn
            have t3 : decide ((⟨n1.toArray⟩ : ByteArray) = ⟨n2.toArray⟩) = false := by simpa using hnn
            have t4 : (n1 == n2) = false := by simpa using hnn
            by_cases hE : E = 0
            · as_aux_lemma =>
                have hk := NE.out hE
                subst hE
                clear NE
                go_wp2_with fail
                refine (IC.out _).mono ?_
                rintro e wq ⟨rfl, hb⟩
                replace L := below_step L hb
                clear hb
                go_wp2_with fail
                refine (IB.out _).mono ?_
                rintro e wq ⟨rfl, hb⟩
                replace L := below_step L hb
                clear hb
                go_wp2_with fail
                refine (NX.out _).mono ?_
                rintro e wq ⟨rfl, hb⟩
                replace L := below_step L hb
                clear hb
                go_wp2_with fail
                refine (NY.out _).mono ?_
                rintro e wq ⟨rfl, hb⟩
                replace L := below_step L hb
                clear hb
                go_wp2_with fail
                refine (IC.out _).mono ?_
                rintro e wq ⟨rfl, hb⟩
                replace L := below_step L hb
                clear hb
                go_wp2_with fail
                go_ret
                exact ⟨rfl, L⟩
            · as_aux_lemma =>
                have hEb : (E == 0) = false := by simpa using hE
                clear NE
                go_wp2_with fail
                refine (IC.out _).mono ?_
                rintro e wq ⟨rfl, hb⟩
                replace L := below_step L hb
                clear hb
                go_wp2_with fail
                refine (IB.out _).mono ?_
                rintro e wq ⟨rfl, hb⟩
                replace L := below_step L hb
                clear hb
                go_wp2_with fail
                refine (NX.out _).mono ?_
                rintro e wq ⟨rfl, hb⟩
                replace L := below_step L hb
                clear hb
                go_wp2_with fail
                refine (NY.out _).mono ?_
                rintro e wq ⟨rfl, hb⟩
                replace L := below_step L hb
                clear hb
                go_wp2_with fail
                refine (IC.out _).mono ?_
                rintro e wq ⟨rfl, hb⟩
                replace L := below_step L hb
                clear hb
                go_wp2_with fail
                go_ret
                exact ⟨rfl, L⟩
      · clear CASE hwc
        by_cases hE : E = 0
        · as_aux_lemma =>
            have hk := NE.out hE
            subst hE
            clear NE
            go_wp2_with fail
            refine (IC.out _).mono ?_
            rintro e wq ⟨rfl, hb⟩
            replace L := below_step L hb
            clear hb
            go_wp2_with fail
            go_ret
            exact ⟨rfl, L⟩
        · as_aux_lemma =>
            have hEb : (E == 0) = false := by simpa using hE
            clear NE
            go_wp2_with fail
            refine (IC.out _).mono ?_
            rintro e wq ⟨rfl, hb⟩
            replace L := below_step L hb
            clear hb
            go_wp2_with fail
            go_ret
            exact ⟨rfl, L⟩
end Go.Proofs.YtelppggliieniaaGreatDoor.fnWords
