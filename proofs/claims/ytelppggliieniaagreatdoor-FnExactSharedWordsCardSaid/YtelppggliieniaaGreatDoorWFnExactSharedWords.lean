/- The program's SharedWords returns what the reference's returns, for all lists of texts: the walk. No condition. -/
import Derived.Test.YtelppggliieniaaGreatDoorRows
import Derived.Test.YtelppggliieniaaGreatDoorKit
import Derived.Test.YtelppggliieniaaGreatDoorShw
namespace Go.Proofs.YtelppggliieniaaGreatDoor.fnExactSharedWords
open Go.RowKit
set_option linter.unusedVariables false
-- door
set_option maxRecDepth 100000 in
set_option maxHeartbeats 1000000 in
theorem walk (a : Option Addr) (c : Nat) (xs : List (List UInt8)) (hn : xs.length ≤ 9223372036854775807) {w : World} (hin : InS w a xs.length xs) (hx : ∀ i, (xs.getD i []).length ≤ 9223372036854775807) (a2 : Option Addr) (d : Nat) (ys : List (List UInt8)) (hm : ys.length ≤ 9223372036854775807) (hin2 : InS w a2 ys.length ys) (hy : ∀ i, (ys.getD i []).length ≤ 9223372036854775807) (_ : World) (_ : w.ShapedOpen Tryz.prog) : Calls Tryz.prog 5 #[.slice a xs.length c, .slice a2 ys.length d] w fun e w' => e = .returned (.bool true) ∧ Below w.heap.size w w' := by
  have con := fun W h l h0 h1 => l_szStringS a c xs W h hn hx l h0 h1
  have dcon := fun W h l h0 h1 => l_szStringS a2 d ys W h hm hy l h0 h1
  have con2 := fun W h h' => l_toStringS a c xs W h h'
  have dcon2 := fun W h h' => l_toStringS a2 d ys W h h'
  have con3 := fun (b1 b2 : Nat) (v1 v2 : Value) W (h1 : OwnS W b1 v1 xs) (h2 : OwnS W b2 v2 ys) => s_SharedWords W h1 h2 hx hy
  have con4 := fun (b1 b2 : Nat) (v1 v2 : Value) W (h1 : OwnS W b1 v1 xs) (h2 : OwnS W b2 v2 ys) => i_SharedWords W h1 h2 hx hy
  have con5 := fun (b1 b2 : Nat) (v1 v2 : Value) W (h1 : OwnS W b1 v1 xs) (h2 : OwnS W b2 v2 xs) => l_eqStringS W h1 h2
  have dcon5 := fun (b1 b2 : Nat) (v1 v2 : Value) W (h1 : OwnS W b1 v1 ys) (h2 : OwnS W b2 v2 ys) => l_eqStringS W h1 h2
  obtain ⟨p, hp⟩ : ∃ p, shF xs ys = p := ⟨_, rfl⟩
  rw [hp] at con3 con4
  obtain ⟨p1, p2⟩ := p
  clear hp
  have CON := Lib.hid con
  have CON2 := Lib.hid con2
  have CON3 := Lib.hid con3
  have CON4 := Lib.hid con4
  have CON5 := Lib.hid con5
  have DON := Lib.hid dcon
  have DON2 := Lib.hid dcon2
  have DON5 := Lib.hid dcon5
  have HI := Lib.hid hin
  have HJ := Lib.hid hin2
  clear con con2 con3 con4 con5 hin hx dcon dcon2 dcon5 hin2 hy
  obtain ⟨tx, htx⟩ : ∃ t, tl xs xs.length = t := ⟨_, rfl⟩
  obtain ⟨ty, hty⟩ : ∃ t, tl ys ys.length = t := ⟨_, rfl⟩
  rw [htx] at CON
  rw [hty] at DON
  clear htx hty
  obtain ⟨n, hnn⟩ : ∃ n, xs.length = n := ⟨_, rfl⟩
  obtain ⟨m, hmm⟩ : ∃ m, ys.length = m := ⟨_, rfl⟩
  rw [hnn] at CON CON2 HI hn ⊢
  rw [hmm] at DON DON2 HJ hm ⊢
  clear hnn hmm
  go_enter Tryz.func5, Tryz.ntmps5
  go_wp2_with fail
  refine (CON.out _ HI.out 1048576 (by omega) (by omega)).mono ?_
  rintro e w1 ⟨⟨r, rfl, hr⟩, rfl⟩
  rcases hr with rfl | ⟨hr, hr0⟩
  · go_wp2_with fail
    go_ret
    exact ⟨rfl, Below.refl _ _⟩
  · have hn' : n ≤ 1048576 := by omega
    have hr1 : r ≤ 1048576 := by omega
    clear hr
    go_wp2_with fail
    refine (DON.out _ HJ.out r hr0 hr1).mono ?_
    rintro e w1 ⟨⟨r2, rfl, hr2⟩, rfl⟩
    rcases hr2 with rfl | ⟨hr2, hr20⟩
    · go_wp2_with fail
      go_ret
      exact ⟨rfl, Below.refl _ _⟩
    · have hm' : m ≤ 1048576 := by omega
      clear hr2 hr1
      go_wp2_with fail
      refine (CON2.out _ HI.out hn').mono ?_
      rintro e w2 ⟨rfl, ho2, L⟩
      go_wp2_with fail
      refine (DON2.out _ (HJ.out.below L) hm').mono ?_
      rintro e w3 ⟨rfl, hq2, hb⟩
      replace ho2 := ho2.below hb
      replace L := below_step L hb
      clear hb
      go_wp2_with fail
      refine (CON3.out _ _ _ _ _ ho2 hq2).mono ?_
      rintro e w4 ⟨rfl, hb⟩
      replace L := below_step L hb
      clear hb ho2 hq2
      go_wp2_with fail
      refine (CON2.out _ (HI.out.below L) hn').mono ?_
      rintro e w5 ⟨rfl, ho4, hb⟩
      replace L := below_step L hb
      clear hb
      go_wp2_with fail
      refine (DON2.out _ (HJ.out.below L) hm').mono ?_
      rintro e w6 ⟨rfl, hq4, hb⟩
      replace ho4 := ho4.below hb
      replace L := below_step L hb
      clear hb
      go_wp2_with fail
      refine (CON4.out _ _ _ _ _ ho4 hq4).mono ?_
      rintro e w7 ⟨rfl, hb⟩
      replace ho4 := ho4.below hb
      replace hq4 := hq4.below hb
      replace L := below_step L hb
      clear hb
      go_wp2_with fail
      refine (CON2.out _ (HI.out.below L) hn').mono ?_
      rintro e w8 ⟨rfl, ho6, hb⟩
      replace ho4 := ho4.below hb
      replace hq4 := hq4.below hb
      replace L := below_step L hb
      clear hb
      go_wp2_with fail
      refine (CON5.out _ _ _ _ _ ho4 ho6).mono ?_
      rintro e w9 ⟨rfl, q, rfl⟩
      replace hq4 := hq4.drewN q
      replace L := below_drewN L q
      clear ho4 ho6
      generalize w8.drewN q = wz at *
      go_wp2_with fail
      refine (DON2.out _ (HJ.out.below L) hm').mono ?_
      rintro e w10 ⟨rfl, hq6, hb⟩
      replace hq4 := hq4.below hb
      replace L := below_step L hb
      clear hb
      go_wp2_with fail
      refine (DON5.out _ _ _ _ _ hq4 hq6).mono ?_
      rintro e w11 ⟨rfl, q, rfl⟩
      go_wp2_with fail
      go_ret
      exact ⟨rfl, below_drewN L q⟩
end Go.Proofs.YtelppggliieniaaGreatDoor.fnExactSharedWords
