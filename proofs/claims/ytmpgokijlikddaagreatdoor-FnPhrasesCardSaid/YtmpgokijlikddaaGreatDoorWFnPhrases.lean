/- A phrase is found from its text, and words in common are as many for both: the walk. No condition. -/
import Derived.Test.YtmpgokijlikddaaGreatDoorRows
import Derived.Test.YtmpgokijlikddaaGreatDoorKit
import Derived.Test.YtmpgokijlikddaaGreatDoorDrawSp
import Derived.Test.YtmpgokijlikddaaGreatDoorPhrLaw
import Derived.Test.YtmpgokijlikddaaGreatDoorSplS
import Derived.Test.YtmpgokijlikddaaGreatDoorLikeT
import Derived.Test.YtmpgokijlikddaaGreatDoorShw
import Derived.Test.YtmpgokijlikddaaGreatDoorMem
import Derived.OpenShut
namespace Go.Proofs.YtmpgokijlikddaaGreatDoor.fnPhrases
open Go.RowKit
set_option linter.unusedVariables false
-- door
theorem l_bigP (a : Option Addr) (n c : Nat) (w : World) : Calls Tryz.prog 7 #[.slice a n c] w fun e w' => e = .returned (.bool (decide ((4096 : Int) < n))) ∧ Below w.heap.size w w' := by
  go_enter Tryz.func7, Tryz.ntmps7
  go_wp2_with fail
  go_ret
  exact ⟨rfl, Below.refl _ _⟩
theorem ph_law {ys : List (List UInt8)} {T : List UInt8} {P : Int} (h : phF ys = (T, P)) : (P = 1 ∧ T.length ≤ 1260) ∨ (P = 0 ∧ T.length ≤ 1260 ∧ spF T = (ys, 0)) := by
  cases hp : phB ys with
  | true =>
    rw [ph_T hp] at h
    injection h with h1 h2
    exact .inr ⟨h2.symm, by rw [← h1]; exact join_le hp, by rw [← h1]; exact ph_spl hp⟩
  | false =>
    rw [ph_F hp] at h
    injection h with h1 h2
    exact .inl ⟨h2.symm, by rw [← h1]; simp⟩
theorem sp_law {x : List UInt8} {zs : List (List UInt8)} {S : Int} (h : spF x = (zs, S)) : (S = 6) ∨ (S = 0 ∧ phF zs = (x, 0) ∧ ∀ j, (zs.getD j []).length ≤ 9223372036854775807) := by
  by_cases h0 : S = 0
  · subst h0
    have h1 := sp_ph (x := x) (by rw [h])
    rw [h] at h1
    refine .inr ⟨rfl, h1, fun j => ?_⟩
    have hp : phB zs = true := by
      cases hp : phB zs with
      | true => rfl
      | false => rw [ph_F hp] at h1; injection h1 with _ h2; exact absurd h2 (by decide)
    have := (ph_len hp).2 j
    omega
  · refine .inl ?_
    unfold spF at h
    split at h
    · injection h with _ h2; exact absurd h2.symm h0
    · split at h
      · injection h with _ h2; exact absurd h2.symm h0
      · injection h with _ h2; exact h2.symm
theorem sh_law {a b : List (List UInt8)} {H Q : Int} (h : shF a b = (H, Q)) : (Q = 1) ∨ (Q = 0 ∧ shF b a = (H, 0) ∧ shF a a = ((a.length : Int), 0) ∧ H ≤ a.length ∧ H ≤ b.length) := by
  cases hp : phB a && phB b with
  | false =>
    unfold shF at h
    rw [hp] at h
    injection h with _ h2; exact .inl h2.symm
  | true =>
    have h' := h
    unfold shF at h
    rw [hp] at h
    rw [Bool.and_eq_true] at hp
    injection h with h1 h2
    have m1 := shN_len a b
    have m2 := shN_len b a
    rw [shN_sym b a] at m2
    refine .inr ⟨h2.symm, ?_, ?_, by omega, by omega⟩
    · unfold shF
      rw [hp.1, hp.2, ← h1, shN_sym b a]; rfl
    · unfold shF
      rw [hp.1, shN_own a]; rfl
set_option maxRecDepth 100000 in
set_option maxHeartbeats 4000000 in
theorem walk (a : Option Addr) (n c : Nat) (xs : List Int) (hn : n ≤ 9223372036854775807) {w : World} (hI : InB w a n xs) (hx : ∀ i, 0 ≤ xs.getD i 0 ∧ xs.getD i 0 ≤ 255) (_ : World) (hsh : w.ShapedOpen Tryz.prog) : Calls Tryz.prog 5 #[.slice a n c] w fun e w' => e = .returned (.bool true) ∧ Below w.heap.size w w' := by
  have HM : Hid (MaxOk w) := Tryz.laysM219.s1_3 w hsh
  clear hsh
  have con := l_bigP a n c w
  by_cases hbig : (4096 : Int) < n
  · simp only [hbig, decide_true] at con
    go_enter Tryz.func5, Tryz.ntmps5
    go_wp2_with fail
    refine con.mono ?_
    rintro e w1 ⟨rfl, L1⟩
    go_wp2_with fail
    go_ret
    exact ⟨rfl, L1⟩
  · simp only [hbig, decide_false] at con
    have hn' : n ≤ 4096 := by omega
    have hIB : ∀ W : World, Below w.heap.size w W → InB W a n xs := fun W h => hI.below h
    have HIB := Lib.hid hIB
    have HX := Lib.hid hx
    clear hIB hx hI
    go_enter Tryz.func5, Tryz.ntmps5
    go_wp2_with fail
    refine con.mono ?_
    rintro e w1 ⟨rfl, L⟩
    clear con hbig
    go_wp2_with fail
    refine (d_PhraseText a n c xs _ (HIB.out _ L) hn' HX.out).mono ?_
    rintro e w2 ⟨⟨v0, ys, rfl, V0, hyl, hys⟩, hb⟩
    replace L := below_step L hb
    clear hb
    have ip := fun (b : Nat) (v : Value) W (h : OwnS W b v ys) => i_PhraseText W h hys.get
    have sp := fun (b : Nat) (v : Value) W (h : OwnS W b v ys) => s_PhraseText W h hys.get
    obtain ⟨⟨T, P⟩, hT⟩ : ∃ p, phF ys = p := ⟨_, rfl⟩
    have PC := Lib.hid (ph_law hT)
    have hTl : T.length ≤ 1260 := by rcases ph_law hT with ⟨_, h⟩ | ⟨_, h, _⟩ <;> exact h
    rw [hT] at ip sp
    dsimp only at ip sp
    have IP := Lib.hid ip
    have SP := Lib.hid sp
    have YC := Lib.hid (fun W h => i_SplitPhrase T W h (by omega))
    have LK0 := Lib.hid (fun (b1 b2 : Nat) (v1 v2 : Value) W (h1 : OwnS W b1 v1 ys) (h2 : OwnS W b2 v2 ys) => likeT_same W h1 h2)
    obtain ⟨-, A0, c0, rfl, -⟩ := V0.opened
    obtain ⟨n0, hn0⟩ : ∃ k, ys.length = k := ⟨_, rfl⟩
    rw [hn0] at V0 ⊢
    clear ip sp hT hys hyl hn0
    go_wp2_with fail
    refine (IP.out _ _ _ V0).mono ?_
    rintro e w3 ⟨rfl, hb⟩
    replace L := below_step L hb
    replace V0 := V0.below hb
    clear hb IP
    go_wp2_with fail
    refine (SP.out _ _ _ V0).mono ?_
    rintro e w4 ⟨rfl, rfl⟩
    clear SP
    go_wp2_with fail
    refine (d_SplitPhrase a n c xs _ (HIB.out _ L) hn' HX.out).mono ?_
    rintro e w5 ⟨⟨x, rfl, hxl⟩, hb⟩
    replace L := below_step L hb
    replace V0 := V0.below hb
    clear hb
    have is := fun W h => i_SplitPhrase x W h (by omega)
    have ss := fun W => s_SplitPhrase x W (by omega)
    obtain ⟨⟨zs, S⟩, hS⟩ : ∃ p, spF x = p := ⟨_, rfl⟩
    have SC := Lib.hid (sp_law hS)
    rw [hS] at is ss
    dsimp only at is ss
    have IS := Lib.hid is
    have SS := Lib.hid ss
    have IZ := Lib.hid (fun (hz : ∀ j, (zs.getD j []).length ≤ 9223372036854775807) (b : Nat) (v : Value) W (h : OwnS W b v zs) => i_PhraseText W h hz)
    have LK1 := Lib.hid (fun (b1 b2 : Nat) (v1 v2 : Value) W (h1 : OwnS W b1 v1 zs) (h2 : OwnS W b2 v2 zs) => likeT_same W h1 h2)
    clear is ss hS
    go_wp2_with fail
    refine (IS.out _ (HM.out.below L)).mono ?_
    rintro e w6 ⟨v1, rfl, V1, hb⟩
    replace L := below_step L hb
    replace V0 := V0.below hb
    obtain ⟨-, A1, c1, rfl, -⟩ := V1.opened
    obtain ⟨n1, hn1⟩ : ∃ k, zs.length = k := ⟨_, rfl⟩
    rw [hn1] at V1 ⊢
    clear hb IS
    go_wp2_with fail
    refine (SS.out _).mono ?_
    rintro e w7 ⟨v2, rfl, V2, hb⟩
    replace L := below_step L hb
    replace V0 := V0.below hb
    replace V1 := V1.below hb
    obtain ⟨-, A2, c2, rfl, -⟩ := V2.opened
    rw [hn1] at V2 ⊢
    clear hb SS hn1
    go_wp2_with fail
    refine (d_SharedWords a n c xs _ (HIB.out _ L) hn' HX.out).mono ?_
    rintro e w8 ⟨⟨v3, fs, v4, gs, rfl, ⟨V3, hfl, hfs⟩, ⟨V4, hgl, hgs⟩⟩, hb⟩
    replace L := below_step L hb
    replace V0 := V0.below hb
    replace V1 := V1.below hb
    replace V2 := V2.below hb
    clear hb HIB HX
    have ia := fun (b1 b2 : Nat) (v1 v2 : Value) W (h1 : OwnS W b1 v1 fs) (h2 : OwnS W b2 v2 gs) => i_SharedWords W h1 h2 hfs.get hgs.get
    have sa := fun (b1 b2 : Nat) (v1 v2 : Value) W (h1 : OwnS W b1 v1 fs) (h2 : OwnS W b2 v2 gs) => s_SharedWords W h1 h2 hfs.get hgs.get
    have ib := fun (b1 b2 : Nat) (v1 v2 : Value) W (h1 : OwnS W b1 v1 gs) (h2 : OwnS W b2 v2 fs) => i_SharedWords W h1 h2 hgs.get hfs.get
    have ic := fun (b1 b2 : Nat) (v1 v2 : Value) W (h1 : OwnS W b1 v1 fs) (h2 : OwnS W b2 v2 fs) => i_SharedWords W h1 h2 hfs.get hfs.get
    obtain ⟨⟨H, Q⟩, hH⟩ : ∃ p, shF fs gs = p := ⟨_, rfl⟩
    have hlaw := sh_law hH
    rw [hH] at ia sa
    dsimp only at ia sa
    obtain ⟨-, A3, c3, rfl, -⟩ := V3.opened
    obtain ⟨-, A4, c4, rfl, -⟩ := V4.opened
    obtain ⟨n3, hn3⟩ : ∃ k, fs.length = k := ⟨_, rfl⟩
    obtain ⟨n4, hn4⟩ : ∃ k, gs.length = k := ⟨_, rfl⟩
    rw [hn3] at hlaw V3 hfl ⊢
    rw [hn4] at hlaw V4 hgl ⊢
    have IA := Lib.hid ia
    have SA := Lib.hid sa
    have IB := Lib.hid ib
    have IC := Lib.hid ic
    have HN3 := Lib.hid hn3
    have QC := Lib.hid hlaw
    clear ia sa ib ic hlaw hH hfs hgs hn3 hn4
    go_wp2_with fail
    refine (IA.out _ _ _ _ _ V3 V4).mono ?_
    rintro e w9 ⟨rfl, hb⟩
    replace L := below_step L hb
    replace V0 := V0.below hb
    replace V1 := V1.below hb
    replace V2 := V2.below hb
    replace V3 := V3.below hb
    replace V4 := V4.below hb
    clear hb IA
    go_wp2_with fail
    refine (SA.out _ _ _ _ _ V3 V4).mono ?_
    rintro e w10 ⟨rfl, hb⟩
    replace L := below_step L hb
    replace V0 := V0.below hb
    replace V1 := V1.below hb
    replace V2 := V2.below hb
    replace V3 := V3.below hb
    replace V4 := V4.below hb
    clear hb SA
    go_wp2_with fail
    refine (LK1.out _ _ _ _ _ V1 V2).mono ?_
    rintro e w11 ⟨rfl, q, rfl⟩
    replace L := below_drewN L q
    replace V0 := V0.drewN q
    replace V1 := V1.drewN q
    replace V3 := V3.drewN q
    replace V4 := V4.drewN q
    clear V2 LK1
    generalize w10.drewN q = w11 at *
    rcases SC.out with rfl | ⟨rfl, hph, hz⟩
    · as_aux_lemma =>
        clear SC IZ V1
        rcases QC.out with rfl | ⟨rfl, hba, haa, h1, h2⟩
        · as_aux_lemma =>
            clear QC IB IC V3 V4
            rcases PC.out with ⟨rfl, -⟩ | ⟨rfl, -, hsp⟩
            · as_aux_lemma =>
                clear PC YC LK0 V0
                go_wp2_with fail
                go_ret
                exact ⟨rfl, L⟩
            · as_aux_lemma =>
                have yc := YC.out
                rw [hsp] at yc
                dsimp only at yc
                have YD := Lib.hid yc
                clear PC YC yc hsp
                go_wp2_with fail
                refine (YD.out _ (HM.out.below L)).mono ?_
                rintro e w15 ⟨v5, rfl, V5, hb⟩
                replace L := below_step L hb
                replace V0 := V0.below hb
                clear hb
                obtain ⟨-, A5, c5, rfl, -⟩ := V5.opened
                obtain ⟨n5, hn5⟩ : ∃ k, ys.length = k := ⟨_, rfl⟩
                rw [hn5] at V5 ⊢
                clear hn5 YD
                go_wp2_with fail
                refine (LK0.out _ _ _ _ _ V5 V0).mono ?_
                rintro e w16 ⟨rfl, q, rfl⟩
                replace L := below_drewN L q
                clear V0 V5
                generalize w15.drewN q = w16 at *
                go_wp2_with fail
                go_ret
                exact ⟨rfl, L⟩
        · as_aux_lemma =>
            have ib := IB.out
            have ic := IC.out
            rw [hba] at ib
            rw [haa] at ic
            dsimp only at ib ic
            have IBx := Lib.hid ib
            have ICx := Lib.hid ic
            clear QC IB IC ib ic hba haa
            go_wp2_with fail
            refine (IBx.out _ _ _ _ _ V4 V3).mono ?_
            rintro e w13 ⟨rfl, hb⟩
            replace L := below_step L hb
            replace V0 := V0.below hb
            replace V3 := V3.below hb
            replace V4 := V4.below hb
            clear hb
            go_wp2_with fail
            refine (ICx.out _ _ _ _ _ V3 V3).mono ?_
            rintro e w14 ⟨rfl, hb⟩
            replace L := below_step L hb
            replace V0 := V0.below hb
            clear hb
            clear V3 V4 IBx ICx
            by_cases h34 : n3 ≤ n4
            · have hmn : min (n3 : Int) n4 = n3 := by omega
              have h34i : (n3 : Int) ≤ n4 := by omega
              clear h34
              rcases PC.out with ⟨rfl, -⟩ | ⟨rfl, -, hsp⟩
              · as_aux_lemma =>
                  clear PC YC LK0 V0
                  go_wp2_with fail
                  go_ret
                  exact ⟨rfl, L⟩
              · as_aux_lemma =>
                  have yc := YC.out
                  rw [hsp] at yc
                  dsimp only at yc
                  have YD := Lib.hid yc
                  clear PC YC yc hsp
                  go_wp2_with fail
                  refine (YD.out _ (HM.out.below L)).mono ?_
                  rintro e w15 ⟨v5, rfl, V5, hb⟩
                  replace L := below_step L hb
                  replace V0 := V0.below hb
                  clear hb
                  obtain ⟨-, A5, c5, rfl, -⟩ := V5.opened
                  obtain ⟨n5, hn5⟩ : ∃ k, ys.length = k := ⟨_, rfl⟩
                  rw [hn5] at V5 ⊢
                  clear hn5 YD
                  go_wp2_with fail
                  refine (LK0.out _ _ _ _ _ V5 V0).mono ?_
                  rintro e w16 ⟨rfl, q, rfl⟩
                  replace L := below_drewN L q
                  clear V0 V5
                  generalize w15.drewN q = w16 at *
                  go_wp2_with fail
                  go_ret
                  exact ⟨rfl, L⟩
            · have hmn : min (n3 : Int) n4 = n4 := by omega
              have h34i : (n4 : Int) < n3 := by omega
              clear h34
              rcases PC.out with ⟨rfl, -⟩ | ⟨rfl, -, hsp⟩
              · as_aux_lemma =>
                  clear PC YC LK0 V0
                  go_wp2_with fail
                  go_ret
                  exact ⟨rfl, L⟩
              · as_aux_lemma =>
                  have yc := YC.out
                  rw [hsp] at yc
                  dsimp only at yc
                  have YD := Lib.hid yc
                  clear PC YC yc hsp
                  go_wp2_with fail
                  refine (YD.out _ (HM.out.below L)).mono ?_
                  rintro e w15 ⟨v5, rfl, V5, hb⟩
                  replace L := below_step L hb
                  replace V0 := V0.below hb
                  clear hb
                  obtain ⟨-, A5, c5, rfl, -⟩ := V5.opened
                  obtain ⟨n5, hn5⟩ : ∃ k, ys.length = k := ⟨_, rfl⟩
                  rw [hn5] at V5 ⊢
                  clear hn5 YD
                  go_wp2_with fail
                  refine (LK0.out _ _ _ _ _ V5 V0).mono ?_
                  rintro e w16 ⟨rfl, q, rfl⟩
                  replace L := below_drewN L q
                  clear V0 V5
                  generalize w15.drewN q = w16 at *
                  go_wp2_with fail
                  go_ret
                  exact ⟨rfl, L⟩
    · as_aux_lemma =>
        have iz := IZ.out hz
        rw [hph] at iz
        dsimp only at iz
        have IY := Lib.hid iz
        clear SC IZ iz hph hz
        go_wp2_with fail
        refine (IY.out _ _ _ V1).mono ?_
        rintro e w12 ⟨rfl, hb⟩
        replace L := below_step L hb
        replace V0 := V0.below hb
        replace V3 := V3.below hb
        replace V4 := V4.below hb
        clear hb
        clear IY V1
        rcases QC.out with rfl | ⟨rfl, hba, haa, h1, h2⟩
        · as_aux_lemma =>
            clear QC IB IC V3 V4
            rcases PC.out with ⟨rfl, -⟩ | ⟨rfl, -, hsp⟩
            · as_aux_lemma =>
                clear PC YC LK0 V0
                go_wp2_with fail
                go_ret
                exact ⟨rfl, L⟩
            · as_aux_lemma =>
                have yc := YC.out
                rw [hsp] at yc
                dsimp only at yc
                have YD := Lib.hid yc
                clear PC YC yc hsp
                go_wp2_with fail
                refine (YD.out _ (HM.out.below L)).mono ?_
                rintro e w15 ⟨v5, rfl, V5, hb⟩
                replace L := below_step L hb
                replace V0 := V0.below hb
                clear hb
                obtain ⟨-, A5, c5, rfl, -⟩ := V5.opened
                obtain ⟨n5, hn5⟩ : ∃ k, ys.length = k := ⟨_, rfl⟩
                rw [hn5] at V5 ⊢
                clear hn5 YD
                go_wp2_with fail
                refine (LK0.out _ _ _ _ _ V5 V0).mono ?_
                rintro e w16 ⟨rfl, q, rfl⟩
                replace L := below_drewN L q
                clear V0 V5
                generalize w15.drewN q = w16 at *
                go_wp2_with fail
                go_ret
                exact ⟨rfl, L⟩
        · as_aux_lemma =>
            have ib := IB.out
            have ic := IC.out
            rw [hba] at ib
            rw [haa] at ic
            dsimp only at ib ic
            have IBx := Lib.hid ib
            have ICx := Lib.hid ic
            clear QC IB IC ib ic hba haa
            go_wp2_with fail
            refine (IBx.out _ _ _ _ _ V4 V3).mono ?_
            rintro e w13 ⟨rfl, hb⟩
            replace L := below_step L hb
            replace V0 := V0.below hb
            replace V3 := V3.below hb
            replace V4 := V4.below hb
            clear hb
            go_wp2_with fail
            refine (ICx.out _ _ _ _ _ V3 V3).mono ?_
            rintro e w14 ⟨rfl, hb⟩
            replace L := below_step L hb
            replace V0 := V0.below hb
            clear hb
            clear V3 V4 IBx ICx
            by_cases h34 : n3 ≤ n4
            · have hmn : min (n3 : Int) n4 = n3 := by omega
              have h34i : (n3 : Int) ≤ n4 := by omega
              clear h34
              rcases PC.out with ⟨rfl, -⟩ | ⟨rfl, -, hsp⟩
              · as_aux_lemma =>
                  clear PC YC LK0 V0
                  go_wp2_with fail
                  go_ret
                  exact ⟨rfl, L⟩
              · as_aux_lemma =>
                  have yc := YC.out
                  rw [hsp] at yc
                  dsimp only at yc
                  have YD := Lib.hid yc
                  clear PC YC yc hsp
                  go_wp2_with fail
                  refine (YD.out _ (HM.out.below L)).mono ?_
                  rintro e w15 ⟨v5, rfl, V5, hb⟩
                  replace L := below_step L hb
                  replace V0 := V0.below hb
                  clear hb
                  obtain ⟨-, A5, c5, rfl, -⟩ := V5.opened
                  obtain ⟨n5, hn5⟩ : ∃ k, ys.length = k := ⟨_, rfl⟩
                  rw [hn5] at V5 ⊢
                  clear hn5 YD
                  go_wp2_with fail
                  refine (LK0.out _ _ _ _ _ V5 V0).mono ?_
                  rintro e w16 ⟨rfl, q, rfl⟩
                  replace L := below_drewN L q
                  clear V0 V5
                  generalize w15.drewN q = w16 at *
                  go_wp2_with fail
                  go_ret
                  exact ⟨rfl, L⟩
            · have hmn : min (n3 : Int) n4 = n4 := by omega
              have h34i : (n4 : Int) < n3 := by omega
              clear h34
              rcases PC.out with ⟨rfl, -⟩ | ⟨rfl, -, hsp⟩
              · as_aux_lemma =>
                  clear PC YC LK0 V0
                  go_wp2_with fail
                  go_ret
                  exact ⟨rfl, L⟩
              · as_aux_lemma =>
                  have yc := YC.out
                  rw [hsp] at yc
                  dsimp only at yc
                  have YD := Lib.hid yc
                  clear PC YC yc hsp
                  go_wp2_with fail
                  refine (YD.out _ (HM.out.below L)).mono ?_
                  rintro e w15 ⟨v5, rfl, V5, hb⟩
                  replace L := below_step L hb
                  replace V0 := V0.below hb
                  clear hb
                  obtain ⟨-, A5, c5, rfl, -⟩ := V5.opened
                  obtain ⟨n5, hn5⟩ : ∃ k, ys.length = k := ⟨_, rfl⟩
                  rw [hn5] at V5 ⊢
                  clear hn5 YD
                  go_wp2_with fail
                  refine (LK0.out _ _ _ _ _ V5 V0).mono ?_
                  rintro e w16 ⟨rfl, q, rfl⟩
                  replace L := below_drewN L q
                  clear V0 V5
                  generalize w15.drewN q = w16 at *
                  go_wp2_with fail
                  go_ret
                  exact ⟨rfl, L⟩
end Go.Proofs.YtmpgokijlikddaaGreatDoor.fnPhrases
