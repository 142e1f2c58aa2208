/- normalWord's own loop: the program's function returns what the plain function says. Condition: a text of 1 to 20 letters. -/
import Derived.Test.YtmpgokijlikddaaGreatDoorNrmP
import Derived.Test.YtmpgokijlikddaaGreatDoorBRow
import Derived.Test.YtmpgokijlikddaaGreatDoorDoR
import Derived.Deep.RegionHeld3
import Derived.WalkLawsBesides
import Derived.Deep.RegionLaw
import Derived.IntWalk
namespace Go.Proofs.YtmpgokijlikddaaGreatDoor
open Go.RowKit
set_option maxRecDepth 100000 in
set_option maxHeartbeats 2000000 in
theorem i_normal (x : List UInt8) (w : World) (hl : x.length ≤ 20) (hp : 0 < x.length) : Calls Tryz.prog 174 #[.string ⟨x.toArray⟩] w fun e w' => e = .returned (.string ⟨(nmL x).toArray⟩) ∧ Below w.heap.size w w' := by
  have CON := Lib.hid (fun W (h : Blk W w.heap.size 9 ⟨rep8.map sv⟩) => i_newrep w.heap.size 8 W h)
  have CON2 := Lib.hid (fun W b base h => i_replace b base x W hl h)
  have hP := wdL_pos hp
  have hN := (wdL_len x).2
  have hnm : nmL x = dropE (ddK (wdL x) (wdL x).length) := rfl
  rw [hnm]
  obtain ⟨l, hll⟩ : ∃ l, wdL x = l := ⟨_, rfl⟩
  rw [hll] at hP hN ⊢
  obtain ⟨m, hm⟩ : ∃ m, ddK l l.length = m := ⟨_, rfl⟩
  have hmp := ddK_pos l l.length hP
  rw [hm] at hmp ⊢
  obtain ⟨R, hR⟩ : ∃ R, dropE m = R := ⟨_, rfl⟩
  rw [hR]
  have HLL := Lib.hid hll
  have HMP := Lib.hid hmp
  have HMM := Lib.hid hm
  have HR := Lib.hid hR
  have DS := Lib.hid (fun k h => ddK_step (l := l) (k := k) h)
  have DT := Lib.hid (fun k h0 h => ddK_stay (l := l) (k := k) h0 h)
  have DL := Lib.hid (ddK_len l)
  replace hN : l.length ≤ 40 := by omega
  clear hp hmp hm hR hll hnm hl
  go_enter Tryz.func174, Tryz.ntmps174
  go_wp2_with fail
  refine (CON.out _ (Blk.new w _ _)).mono ?_
  rintro e w1 ⟨b, rfl, hn, hge, hb⟩
  have L := below_step (below_alloc w _) hb
  clear hb CON
  go_wp2_with fail
  refine (CON2.out _ _ _ hn).mono ?_
  rintro e w2 ⟨rfl, hg2⟩
  rw [HLL.out]
  replace L := L.grown hg2 L.size (fun k hk => by injection hk with hk; simp at hge; omega)
  clear hg2 CON2 HLL hn
  go_wp2_with fail
  go_loopw [3, 13] (fun v i wr => ∃ k : Nat, k ≤ l.length ∧ i = .int .i64 k ∧ OwnB wr w.heap.size v (ddK l k) ∧ Below w.heap.size w wr) (fun _ i _ => l.length - (intOf i).toNat)
  case atStart => exact ⟨0, by omega, rfl, (OwnB.lit0 w2).mono L.size, below_more L L.size _⟩
  case round =>
    clear L
    obtain ⟨k, hk, rfl, ho, hB⟩ := hrel
    have hw := hB.size
    have hdl := DL.out k
    by_cases hlt : k < l.length
    · have hds := DS.out k
      obtain ⟨c, hcc⟩ : ∃ c, l.getD k 0 = c := ⟨_, rfl⟩
      have hgc : (⟨l.toArray⟩ : ByteArray)[k]'hlt = c := by
        rw [← hcc, List.getD_eq_getElem?_getD, List.getElem?_eq_getElem hlt]; rfl
      by_cases h0 : k = 0
      · subst h0
        replace hds := hds (.inl rfl)
        rw [hcc] at hds
        have HS := Lib.hid hds
        clear hds hcc
        go_wp2_with fail
        go_quiet (fail)
        go_wp2_with (at_builtin; refine wpList_appB rfl _ _ rfl _ _ _ _ c _ rfl rfl (ho.drewN _) _ (by simp) rfl (by omega) (by simp; omega) ?_; intro v2 w9 hown2 hg2)
        go_roundw
        case rel => exact ⟨1, by omega, rfl, by rw [HS.out]; exact hown2, (ho.drewN _).below_grown (below_drewN hB _) hg2 (by simp; omega)⟩
        case measure => simp [intOf]; omega
      · obtain ⟨j, rfl⟩ : ∃ j, k = j + 1 := ⟨k - 1, by omega⟩
        have hjl : j < l.length := by omega
        obtain ⟨d, hdd⟩ : ∃ d, l.getD j 0 = d := ⟨_, rfl⟩
        have hgd : (⟨l.toArray⟩ : ByteArray)[j]'hjl = d := by
          rw [← hdd, List.getD_eq_getElem?_getD, List.getElem?_eq_getElem hjl]; rfl
        have hdt := DT.out (j + 1) (by omega)
        rw [Nat.add_sub_cancel, hcc, hdd] at hdt hds
        have hk0 : ((j : Int) + 1 == 0) = false := by simp; omega
        have hw1 : IntKind.i64.wrap ((j : Int) + 1 - 1) = j := by rw [IntWalk.i64_in _ (by omega)]; omega
        have hw2 : IntKind.i64.wrap (j : Int) = j := IntWalk.i64_in _ (by omega)
        clear hcc hdd h0
        by_cases hcd : c = d
        · subst hcd
          replace hdt := hdt rfl
          have HS := Lib.hid hdt
          have hbb : ((c.toNat : Int) != (c.toNat : Int)) = false := by simp
          clear hdt hds
          go_wp2_with fail
          go_quiet (fail)
          go_wp2_with fail
          go_roundw
          case rel => exact ⟨j + 1 + 1, by omega, by go_num, by rw [HS.out]; exact ho.drewN _, below_drewN hB _⟩
          case measure => simp [intOf]; omega
        · replace hds := hds (.inr hcd)
          have HS := Lib.hid hds
          have hbb : ((c.toNat : Int) != (d.toNat : Int)) = true := by
            have := ne_nat hcd
            simp only [bne, this, Bool.not_false]
          clear hdt hds
          go_wp2_with fail
          go_quiet (fail)
          go_wp2_with (at_builtin; refine wpList_appB rfl _ _ rfl _ _ _ _ c _ rfl rfl (ho.drewN _) _ (by simp) rfl (by omega) (by simp; omega) ?_; intro v2 w9 hown2 hg2)
          go_roundw
          case rel => exact ⟨j + 1 + 1, by omega, by go_num, by rw [HS.out]; exact hown2, (ho.drewN _).below_grown (below_drewN hB _) hg2 (by simp; omega)⟩
          case measure => simp [intOf]; omega
    · obtain rfl : k = l.length := by omega
      have hdp := HMP.out
      rw [HMM.out] at ho hdl
      clear DS DT DL HMP HMM
      obtain ⟨-, A2, c2, rfl, p2⟩ := ho.opened
      obtain ⟨g2, rfl, -, hg2, hc2, -⟩ := p2 hdp
      clear p2
      have hcap := (ho.cap).1
      have hdc := drop_cases m hdp
      rw [HR.out] at hdc
      have xl := hc2 (m.length - 1) (by omega)
      have hqq : ((m.length - 1 : Nat) : Int) = (m.length : Int) - 1 := by omega
      have hw1 : IntKind.i64.wrap ((m.length : Int) - 1) = (m.length : Int) - 1 := IntWalk.i64_in _ (by omega)
      have kb := fun q => (ho.drewN q).back (k := m.length) (m := m) rfl List.take_length.symm c2
      have kb2 := fun q => (ho.drewN q).back (k := m.length - 1) (m := m.take (m.length - 1)) (by rw [List.length_take]; omega) rfl c2
      have kb3 := ho.back (k := m.length - 1) (m := m.take (m.length - 1)) (by rw [List.length_take]; omega) rfl c2
      have kb4 := ho.drew.back (k := m.length - 1) (m := m.take (m.length - 1)) (by rw [List.length_take]; omega) rfl c2
      have kb0 := ho.back (k := m.length) (m := m) rfl List.take_length.symm c2
      have kb1 := ho.drew.back (k := m.length) (m := m) rfl List.take_length.symm c2
      clear hc2 HR
      rcases hdc with ⟨h3, hd⟩ | ⟨h3, h101, hd⟩ | ⟨h3, h101, hd⟩
      · clear kb2 kb3 kb4
        subst hd
        have h3' : decide ((2 : Int) < (R.length : Int)) = false := by simp; omega
        go_wp2_with fail
        go_ret
        exact ⟨rfl, hB⟩
      · clear kb2 kb3 kb4
        subst hd
        have h3' : decide ((2 : Int) < (R.length : Int)) = true := by simp; omega
        have hk := ne_nat h101
        obtain ⟨e, he⟩ : ∃ e, R.getD (R.length - 1) 0 = e := ⟨_, rfl⟩
        rw [he] at xl hk
        simp only [show (101 : UInt8).toNat = 101 from rfl] at hk
        clear h101 he
        go_wp2_with fail
        go_ret
        exact ⟨rfl, hB⟩
      · clear kb kb0 kb1
        have h3' : decide ((2 : Int) < (m.length : Int)) = true := by simp; omega
        rw [h101] at xl
        clear h101
        rw [← hd] at kb2 kb3 kb4
        go_wp2_with fail
        go_ret
        exact ⟨by rw [hd]; rfl, hB⟩
end Go.Proofs.YtmpgokijlikddaaGreatDoor
