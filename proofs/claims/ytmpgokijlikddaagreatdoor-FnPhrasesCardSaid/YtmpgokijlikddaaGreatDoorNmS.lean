/- l10Normal: the reference's function returns what the plain function says. Condition: a text of 1 to 20 letters. -/
import Derived.Test.YtmpgokijlikddaaGreatDoorNrmP
import Derived.Test.YtmpgokijlikddaaGreatDoorBRow
import Derived.Deep.RegionHeld3
import Derived.WalkLawsBesides
import Derived.Deep.RegionLaw
import Derived.IntWalk
namespace Go.Proofs.YtmpgokijlikddaaGreatDoor
open Go.RowKit
set_option maxRecDepth 100000 in
set_option maxHeartbeats 2000000 in
theorem s_normal (x : List UInt8) (w : World) (hl : x.length ≤ 20) (hp : 0 < x.length) : Calls Tryz.prog 175 #[.string ⟨x.toArray⟩] w fun e w' => e = .returned (.string ⟨(nmL x).toArray⟩) ∧ Below w.heap.size w w' := by
  have HW := Lib.hid (wdL_snoc x)
  have HL := Lib.hid (wdL_take_le hl)
  have hE : wdL (x.take x.length) = wdL x := by rw [List.take_length]
  have hP := wdL_pos hp
  have hN : nmL x = dropE (ddK (wdL x) (wdL x).length) := rfl
  rw [hN]
  obtain ⟨l, hll⟩ : ∃ l, wdL x = l := ⟨_, rfl⟩
  rw [hll] at hE hP ⊢
  obtain ⟨m, hm⟩ : ∃ m, ddK l l.length = m := ⟨_, rfl⟩
  have hmp := ddK_pos l l.length hP
  rw [hm] at hmp ⊢
  obtain ⟨R, hR⟩ : ∃ R, dropE m = R := ⟨_, rfl⟩
  rw [hR]
  have HE := Lib.hid hE
  have HP := Lib.hid hP
  have HMP := Lib.hid hmp
  have HMM := Lib.hid hm
  have HR := Lib.hid hR
  clear hp hE hP hN hmp hm hR hll
  go_enter Tryz.func175, Tryz.ntmps175
  go_wp2_with fail
  go_loopw [3, 4] (fun v i wr => ∃ k : Nat, k ≤ x.length ∧ i = .int .i64 k ∧ OwnB wr w.heap.size v (wdL (x.take k)) ∧ Below w.heap.size w wr) (fun _ i _ => x.length - (intOf i).toNat)
  case atStart => exact ⟨0, by omega, rfl, OwnB.lit0 w, below_alloc _ _⟩
  case round =>
    obtain ⟨k, hk, rfl, hown, hB⟩ := hrel
    have hw := hB.size
    have hlen := HL.out k
    by_cases hlt : k < x.length
    · obtain ⟨c, hc⟩ : ∃ c, x.getD k 0 = c := ⟨_, rfl⟩
      have hgc : (⟨x.toArray⟩ : ByteArray)[k]'hlt = c := by
        rw [← hc, List.getD_eq_getElem?_getD, List.getElem?_eq_getElem hlt]; rfl
      have hsn := HW.out k hlt
      rw [hc] at hsn
      obtain ⟨acc, hacc⟩ : ∃ acc, wdL (x.take k) = acc := ⟨_, rfl⟩
      rw [hacc] at hsn hown hlen
      clear hc hacc
      by_cases h0 : c = 118
      · subst h0
        rw [show wdB 118 = [117] from by decide] at hsn
        have HS := Lib.hid hsn
        clear hsn
        go_wp2_with (at_builtin; refine wpList_appB rfl _ _ rfl _ _ _ _ 117 _ rfl rfl hown _ (by simp) rfl (by omega) (by omega) ?_; intro v2 w9 hown2 hg2)
        go_roundw
        case rel => exact ⟨k + 1, by omega, by go_num, by rw [HS.out]; exact hown2, hown.below_grown hB hg2 (by omega)⟩
        case measure => simp [intOf]; omega
      · have hk0 := ne_nat h0
        by_cases h1 : c = 106
        · subst h1
          rw [show wdB 106 = [105] from by decide] at hsn
          clear h0
          have HS := Lib.hid hsn
          clear hsn
          go_wp2_with (at_builtin; refine wpList_appB rfl _ _ rfl _ _ _ _ 105 _ rfl rfl hown _ (by simp) rfl (by omega) (by omega) ?_; intro v2 w9 hown2 hg2)
          go_roundw
          case rel => exact ⟨k + 1, by omega, by go_num, by rw [HS.out]; exact hown2, hown.below_grown hB hg2 (by omega)⟩
          case measure => simp [intOf]; omega
        · have hk1 := ne_nat h1
          by_cases h2 : c = 121
          · subst h2
            rw [show wdB 121 = [105] from by decide] at hsn
            clear h0 h1
            have HS := Lib.hid hsn
            clear hsn
            go_wp2_with (at_builtin; refine wpList_appB rfl _ _ rfl _ _ _ _ 105 _ rfl rfl hown _ (by simp) rfl (by omega) (by omega) ?_; intro v2 w9 hown2 hg2)
            go_roundw
            case rel => exact ⟨k + 1, by omega, by go_num, by rw [HS.out]; exact hown2, hown.below_grown hB hg2 (by omega)⟩
            case measure => simp [intOf]; omega
          · have hk2 := ne_nat h2
            by_cases h3 : c = 119
            · subst h3
              rw [show wdB 119 = [117, 117] from by decide] at hsn
              clear h0 h1 h2
              have HS := Lib.hid hsn
              clear hsn
              go_wp2_with (at_builtin; refine wpList_appB2 rfl _ _ rfl _ _ _ _ 117 117 _ _ rfl rfl rfl hown _ (by simp) rfl (by omega) (by omega) ?_; intro v2 w9 hown2 hg2)
              go_roundw
              case rel => exact ⟨k + 1, by omega, by go_num, by rw [HS.out]; exact hown2, hown.below_grown hB hg2 (by omega)⟩
              case measure => simp [intOf]; omega
            · have hk3 := ne_nat h3
              rw [wdB_else h0 h1 h2 h3] at hsn
              simp only [show (118 : UInt8).toNat = 118 from rfl, show (106 : UInt8).toNat = 106 from rfl, show (121 : UInt8).toNat = 121 from rfl, show (119 : UInt8).toNat = 119 from rfl] at hk0 hk1 hk2 hk3
              clear h0 h1 h2 h3
              have HS := Lib.hid hsn
              clear hsn
              go_wp2_with (at_builtin; refine wpList_appB rfl _ _ rfl _ _ _ _ c _ rfl rfl hown _ (by simp) rfl (by omega) (by omega) ?_; intro v2 w9 hown2 hg2)
              go_roundw
              case rel => exact ⟨k + 1, by omega, by go_num, by rw [HS.out]; exact hown2, hown.below_grown hB hg2 (by omega)⟩
              case measure => simp [intOf]; omega
    · obtain rfl : k = x.length := by omega
      rw [HE.out] at hown
      have hN := HL.out x.length
      rw [HE.out] at hN
      have hpos := HP.out
      clear HW HL HE HP hlen hl hlt hk
      have DS := Lib.hid (fun k h => ddK_step (l := l) (k := k) h)
      have DT := Lib.hid (fun k h0 h => ddK_stay (l := l) (k := k) h0 h)
      have DL := Lib.hid (ddK_len l)
      obtain ⟨hl0, A1, c1, hv, p1⟩ := hown.opened
      obtain ⟨n, hn⟩ : ∃ n, l.length = n := ⟨_, rfl⟩
      rw [hn] at hv
      subst hv
      obtain ⟨g1, rfl, hg0, hg1, -⟩ := p1 hpos
      rw [hn] at hN hpos HMM
      have HNN := Lib.hid hn
      clear p1 hl0 hn
      go_wp2_with fail
      go_loopw [5, 6] (fun v i wx => ∃ k : Nat, k ≤ n ∧ i = .int .i64 k ∧ OwnB wx wr.heap.size v (ddK l k) ∧ OwnB wx w.heap.size (.slice (some ⟨g1, 0, none⟩) n c1) l ∧ Below w.heap.size w wx ∧ wr.heap.size ≤ wx.heap.size) (fun _ i _ => n - (intOf i).toNat)
      case atStart => exact ⟨0, by omega, rfl, OwnB.lit0 wr, hown.alloc _, below_more hB hB.size _, by simp⟩
      case round =>
        clear hown hB
        obtain ⟨k, hk, rfl, ho, hown, hB, hz⟩ := hrel
        have hdl := DL.out k
        by_cases hlt : k < n
        · obtain ⟨-, hP⟩ := hown.at_
          obtain ⟨g', hg', -, hgl, hc, -⟩ := hP (by rw [HNN.out]; omega)
          injection hg' with hg'
          injection hg' with hg'
          subst hg'
          have x0 := hc k (by rw [HNN.out]; exact hlt)
          have hne := ho.far (n := n) (c := c1) hg1
          have hds := DS.out k
          by_cases h0 : k = 0
          · subst h0
            replace hds := hds (.inl rfl)
            obtain ⟨c, hcc⟩ : ∃ c, l.getD 0 0 = c := ⟨_, rfl⟩
            rw [hcc] at x0 hds
            have HS := Lib.hid hds
            clear hds hc hP hcc
            go_wp2_with fail
            go_quiet (fail)
            go_wp2_with (at_builtin; refine wpList_appB rfl _ _ rfl _ _ _ _ c _ rfl rfl (ho.drewN _) _ (by simp) rfl (by omega) (by simp; omega) ?_; intro v2 w9 hown2 hg2)
            go_roundw
            case rel => exact ⟨1, by omega, rfl, by rw [HS.out]; exact hown2, (hown.drewN _).kept hg2 hne, ((ho.mono hw).drewN _).below_grown (below_drewN hB _) hg2 (by simp; omega), Nat.le_trans hz hg2.size⟩
            case measure => simp [intOf]; omega
          · have x1 := hc (k - 1) (by rw [HNN.out]; omega)
            have hk1 : ((k - 1 : Nat) : Int) = (k : Int) - 1 := by omega
            have hk0 : ((k : Int) == 0) = false := by simp; omega
            have hki : (k : Int) - 1 < n := by omega
            have hkj : (0 : Int) ≤ (k : Int) - 1 := by omega
            have hw1 : IntKind.i64.wrap ((k : Int) - 1) = (k : Int) - 1 := IntWalk.i64_in _ (by omega)
            obtain ⟨c, hcc⟩ : ∃ c, l.getD k 0 = c := ⟨_, rfl⟩
            obtain ⟨d, hdd⟩ : ∃ d, l.getD (k - 1) 0 = d := ⟨_, rfl⟩
            have hdt := DT.out k (by omega)
            rw [hcc, hdd] at hdt
            rw [hcc, hdd] at hds
            rw [hcc] at x0
            rw [hdd] at x1
            clear hc hP hcc hdd
            by_cases hcd : c = d
            · subst hcd
              replace hdt := hdt rfl
              have HS := Lib.hid hdt
              have hbb : ((c.toNat : Int) != (c.toNat : Int)) = false := by simp
              clear hdt hds
              go_wp2_with fail
              go_quiet (fail)
              go_wp2_with fail
              go_roundw
              case rel => exact ⟨k + 1, by omega, by go_num, by rw [HS.out]; exact ho.drewN _, hown.drewN _, below_drewN hB _, hz⟩
              case measure => simp [intOf]; omega
            · replace hds := hds (.inr hcd)
              have HS := Lib.hid hds
              have hbb : ((c.toNat : Int) != (d.toNat : Int)) = true := by
                have := ne_nat hcd
                simp only [bne, this, Bool.not_false]
              clear hdt hds
              go_wp2_with fail
              go_quiet (fail)
              go_wp2_with (at_builtin; refine wpList_appB rfl _ _ rfl _ _ _ _ c _ rfl rfl (ho.drewN _) _ (by simp) rfl (by omega) (by simp; omega) ?_; intro v2 w9 hown2 hg2)
              go_roundw
              case rel => exact ⟨k + 1, by omega, by go_num, by rw [HS.out]; exact hown2, (hown.drewN _).kept hg2 hne, ((ho.mono hw).drewN _).below_grown (below_drewN hB _) hg2 (by simp; omega), Nat.le_trans hz hg2.size⟩
              case measure => simp [intOf]; omega
        · obtain rfl : k = n := by omega
          have hdp := HMP.out
          rw [HMM.out] at ho hdl
          clear hown HNN DS DT DL HMP HMM
          obtain ⟨-, A2, c2, rfl, p2⟩ := ho.opened
          obtain ⟨g2, rfl, -, hg2, hc2, -⟩ := p2 hdp
          clear p2
          have hcap := (ho.cap).1
          have hdc := drop_cases m hdp
          rw [HR.out] at hdc
          have xl := hc2 (m.length - 1) (by omega)
          have hqq : ((m.length - 1 : Nat) : Int) = (m.length : Int) - 1 := by omega
          have hw1 : IntKind.i64.wrap ((m.length : Int) - 1) = (m.length : Int) - 1 := IntWalk.i64_in _ (by omega)
          have kb := fun q => (ho.drewN q).back (k := m.length) (m := m) rfl List.take_length.symm c2
          have kb2 := fun q => (ho.drewN q).back (k := m.length - 1) (m := m.take (m.length - 1)) (by rw [List.length_take]; omega) rfl c2
          have kb3 := ho.back (k := m.length - 1) (m := m.take (m.length - 1)) (by rw [List.length_take]; omega) rfl c2
          have kb4 := ho.drew.back (k := m.length - 1) (m := m.take (m.length - 1)) (by rw [List.length_take]; omega) rfl c2
          have kb0 := ho.back (k := m.length) (m := m) rfl List.take_length.symm c2
          have kb1 := ho.drew.back (k := m.length) (m := m) rfl List.take_length.symm c2
          clear hc2 HR
          rcases hdc with ⟨h3, hd⟩ | ⟨h3, h101, hd⟩ | ⟨h3, h101, hd⟩
          · clear kb2 kb3 kb4
            subst hd
            have h3' : decide ((3 : Int) ≤ (R.length : Int)) = false := by simp; omega
            go_wp2_with fail
            go_ret
            exact ⟨rfl, hB⟩
          · clear kb2 kb3 kb4
            subst hd
            have h3' : decide ((3 : Int) ≤ (R.length : Int)) = true := by simp; omega
            have hk := ne_nat h101
            obtain ⟨e, he⟩ : ∃ e, R.getD (R.length - 1) 0 = e := ⟨_, rfl⟩
            rw [he] at xl hk
            simp only [show (101 : UInt8).toNat = 101 from rfl] at hk
            clear h101 he
            go_wp2_with fail
            go_ret
            exact ⟨rfl, hB⟩
          · clear kb kb0 kb1
            have h3' : decide ((3 : Int) ≤ (m.length : Int)) = true := by simp; omega
            rw [h101] at xl
            clear h101
            rw [← hd] at kb2 kb3 kb4
            go_wp2_with fail
            go_ret
            exact ⟨by rw [hd]; rfl, hB⟩
end Go.Proofs.YtmpgokijlikddaaGreatDoor
