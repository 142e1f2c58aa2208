/- What is left of all days beside a list of spans: the program's and the reference's functions. Conditions: how the list lies; bounds of its spans. -/
import Derived.Test.YtoadkljaiegnlaaDoorSpanQ
import Derived.IntWalk
namespace Go.Proofs.YtoadkljaiegnlaaDoor
open Go.RowKit
set_option maxRecDepth 100000 in
set_option maxHeartbeats 4000000 in
theorem i_oth {b : Nat} {v : Value} {L : List Sp} (w : World) (h : OwnP w b v L) (hl : L.length ≤ 100000) (hb : ∀ s ∈ L, spB s) :
    Calls Tryd.prog 85 #[v] w fun e w' => ∃ v', e = .returned v' ∧ OwnP w' w.heap.size v' (rst 0 L) ∧ Below w.heap.size w w' := by
  have HS := Lib.hid (fun a k hk => rst_step a L k hk)
  have HE := Lib.hid (fun a => rst_end a L)
  have HB := Lib.hid (fun (j : Nat) (hj : j < L.length) => hb _ (getD_mem (l := L) (j := j) hj))
  obtain ⟨M, hM⟩ : ∃ M, rst 0 L = M := ⟨_, rfl⟩
  have H0 := Lib.hid (show rst 0 (L.drop 0) = M from hM)
  rw [hM]
  obtain ⟨_, A1, c1, rfl, P1⟩ := h.opened
  have HP := Lib.hid P1
  clear P1 hM hb h
  obtain ⟨n, hnn⟩ : ∃ n, L.length = n := ⟨_, rfl⟩
  rw [hnn] at HS HE HB HP hl ⊢
  clear hnn
  go_enter Tryd.func85, Tryd.ntmps85
  go_wp2_with fail
  go_loopw [3, 4, 10] (fun o a i wr => ∃ (j : Nat) (d : Int) (out : List Sp), j ≤ n ∧ i = .int .i64 j ∧ a = .int .i64 d ∧ 0 ≤ d ∧ d ≤ 1000001 ∧ OwnP wr w.heap.size o out ∧ out.length ≤ j ∧ Hid (out ++ rst d (L.drop j) = M) ∧ Below w.heap.size w wr) (fun _ _ i _ => n - (intOf i).toNat)
  case atStart => exact ⟨0, 0, [], by omega, rfl, rfl, by omega, by omega, OwnP.lit0 w, by simp, H0, below_alloc _ _⟩
  case round =>
    obtain ⟨j, d, out, hj, rfl, rfl, hd0, hd1, V, hol, HI, L2⟩ := hrel
    have hw := L2.size
    by_cases hlt : j < n
    · obtain ⟨g1, rfl, _, hg1, hc1, _⟩ := HP.out (by omega)
      obtain ⟨d0, d1⟩ := hc1 j hlt
      replace d0 := (L2.cell (p := ⟨g1, j * 2, none⟩) hg1).trans d0
      replace d1 := (L2.cell (p := ⟨g1, j * 2 + 1, none⟩) hg1).trans d1
      obtain ⟨s0, s1, s2, s3⟩ := HB.out j hlt
      have hst := HS.out d j hlt
      have hg1w := Nat.lt_of_lt_of_le hg1 hw
      obtain ⟨s, hs⟩ : ∃ s, L.getD j sp0 = s := ⟨_, rfl⟩
      rw [hs] at d0 d1 s0 s1 s2 s3 hst
      obtain ⟨x, y⟩ := s
      dsimp only at d0 d1 s0 s1 s2 s3 hst
      have hII := HI.out
      clear hc1 hs HI
      have X := Blk.new wr 62 #[.int .i64 x, .int .i64 y]
      have hne : Value.ownBlock _ = some wr.heap.size → False := fun e => Nat.lt_irrefl _ (V.lt _ e).2
      have V1 := V.alloc (.cells #[.int .i64 x, .int .i64 y] 62)
      have L1 := below_more L2 hw (.cells #[.int .i64 x, .int .i64 y] 62)
      have hL1 := L1.size
      have x0 := X.c0
      have x1 := X.c1
      clear V
      by_cases hax : d < x
      · rw [if_pos hax] at hst
        rw [hst, ← List.append_assoc] at hII
        have HII := Lib.hid hII
        have HX := Lib.hid X
        clear hst hII X
        go_wp2_with (at_builtin; refine wpList_appP rfl _ _ rfl _ _ _ _ _ _ rfl V1 _ (by simp) rfl (by omega) hL1 ?_; intro v2 w3 V2 hg2; have L3 := V1.below_grown L1 hg2 hL1; have x1 := (HX.out.grown hg2 (fun e => hne e.symm)).c1)
        go_roundw
        case rel => exact ⟨j + 1, y + 1, out ++ [(d, x - 1)], by omega, by go_num, by first | rfl | go_num, by omega, by omega, V2, by simp; omega, HII, L3⟩
        case measure => simp [intOf]; omega
      · rw [if_neg hax, List.nil_append] at hst
        rw [hst] at hII
        have HII := Lib.hid hII
        have hax' : x ≤ d := by omega
        clear hst hII X hax hne
        go_wp2_with fail
        go_roundw
        case rel => exact ⟨j + 1, y + 1, out, by omega, by go_num, by first | rfl | go_num, by omega, by omega, V1, by omega, HII, L1⟩
        case measure => simp [intOf]; omega
    · obtain rfl : j = n := by omega
      have hE := HE.out d
      have hII := HI.out
      rw [hE] at hII
      clear hE HI
      by_cases hd : d ≤ 730499
      · rw [if_pos hd] at hII
        have HII := Lib.hid hII
        clear hII
        go_wp2_with (at_builtin; refine wpList_appP rfl _ _ rfl _ _ _ _ _ _ rfl V _ (by simp) rfl (by omega) hw ?_; intro v2 w3 V2 hg2)
        go_ret
        exact ⟨_, rfl, by rw [← HII.out]; exact V2, V.below_grown L2 hg2 hw⟩
      · rw [if_neg hd, List.append_nil] at hII
        have HII := Lib.hid hII
        have hd' : (730499 : Int) < d := by omega
        clear hII hd
        go_wp2_with fail
        go_ret
        exact ⟨_, rfl, by rw [← HII.out]; exact V, L2⟩
set_option maxRecDepth 100000 in
set_option maxHeartbeats 4000000 in
theorem s_oth {b : Nat} {v : Value} {L : List Sp} (w : World) (h : OwnP w b v L) (hl : L.length ≤ 100000) (hb : ∀ s ∈ L, spB s) :
    Calls Tryd.prog 50 #[v] w fun e w' => ∃ v', e = .returned v' ∧ OwnP w' w.heap.size v' (rst 0 L) ∧ Below w.heap.size w w' := by
  have HS := Lib.hid (fun a k hk => rst_step a L k hk)
  have HE := Lib.hid (fun a => rst_end a L)
  have HB := Lib.hid (fun (j : Nat) (hj : j < L.length) => hb _ (getD_mem (l := L) (j := j) hj))
  obtain ⟨M, hM⟩ : ∃ M, rst 0 L = M := ⟨_, rfl⟩
  have H0 := Lib.hid (show rst 0 (L.drop 0) = M from hM)
  rw [hM]
  obtain ⟨_, A1, c1, rfl, P1⟩ := h.opened
  have HP := Lib.hid P1
  clear P1 hM hb h
  obtain ⟨n, hnn⟩ : ∃ n, L.length = n := ⟨_, rfl⟩
  rw [hnn] at HS HE HB HP hl ⊢
  clear hnn
  go_enter Tryd.func50, Tryd.ntmps50
  go_wp2_with fail
  go_loopw [3, 4, 5] (fun o a i wr => ∃ (j : Nat) (d : Int) (out : List Sp), j ≤ n ∧ i = .int .i64 j ∧ a = .int .i64 d ∧ 0 ≤ d ∧ d ≤ 1000001 ∧ OwnP wr w.heap.size o out ∧ out.length ≤ j ∧ Hid (out ++ rst d (L.drop j) = M) ∧ Below w.heap.size w wr) (fun _ _ i _ => n - (intOf i).toNat)
  case atStart => exact ⟨0, 0, [], by omega, rfl, rfl, by omega, by omega, OwnP.lit0 w, by simp, H0, below_alloc _ _⟩
  case round =>
    obtain ⟨j, d, out, hj, rfl, rfl, hd0, hd1, V, hol, HI, L2⟩ := hrel
    have hw := L2.size
    by_cases hlt : j < n
    · obtain ⟨g1, rfl, _, hg1, hc1, _⟩ := HP.out (by omega)
      obtain ⟨d0, d1⟩ := hc1 j hlt
      have D1 := Lib.hid d1
      replace d0 := (L2.cell (p := ⟨g1, j * 2, none⟩) hg1).trans d0
      replace d1 := (L2.cell (p := ⟨g1, j * 2 + 1, none⟩) hg1).trans d1
      obtain ⟨s0, s1, s2, s3⟩ := HB.out j hlt
      have hst := HS.out d j hlt
      have hg1w := Nat.lt_of_lt_of_le hg1 hw
      obtain ⟨s, hs⟩ : ∃ s, L.getD j sp0 = s := ⟨_, rfl⟩
      rw [hs] at d0 d1 s0 s1 s2 s3 hst D1
      obtain ⟨x, y⟩ := s
      dsimp only at d0 d1 s0 s1 s2 s3 hst D1
      have hII := HI.out
      clear hc1 hs HI
      by_cases hax : d < x
      · rw [if_pos hax] at hst
        rw [hst, ← List.append_assoc] at hII
        have HII := Lib.hid hII
        clear hst hII
        go_wp2_with (at_builtin; refine wpList_appP rfl _ _ rfl _ _ _ _ _ _ rfl V _ (by simp) rfl (by omega) hw ?_; intro v2 w3 V2 hg2; have L3 := V.below_grown L2 hg2 hw; have d1 := (L3.cell (p := ⟨g1, j * 2 + 1, none⟩) hg1).trans D1.out; have hg3w := Nat.lt_of_lt_of_le hg1 L3.size)
        go_roundw
        case rel => exact ⟨j + 1, y + 1, out ++ [(d, x - 1)], by omega, by go_num, by first | rfl | go_num, by omega, by omega, V2, by simp; omega, HII, L3⟩
        case measure => simp [intOf]; omega
      · rw [if_neg hax, List.nil_append] at hst
        rw [hst] at hII
        have HII := Lib.hid hII
        have hax' : x ≤ d := by omega
        clear hst hII hax
        go_wp2_with fail
        go_roundw
        case rel => exact ⟨j + 1, y + 1, out, by omega, by go_num, by first | rfl | go_num, by omega, by omega, V, by omega, HII, L2⟩
        case measure => simp [intOf]; omega
    · obtain rfl : j = n := by omega
      have hE := HE.out d
      have hII := HI.out
      rw [hE] at hII
      clear hE HI
      by_cases hd : d ≤ 730499
      · rw [if_pos hd] at hII
        have HII := Lib.hid hII
        clear hII
        go_wp2_with (at_builtin; refine wpList_appP rfl _ _ rfl _ _ _ _ _ _ rfl V _ (by simp) rfl (by omega) hw ?_; intro v2 w3 V2 hg2)
        go_ret
        exact ⟨_, rfl, by rw [← HII.out]; exact V2, V.below_grown L2 hg2 hw⟩
      · rw [if_neg hd, List.append_nil] at hII
        have HII := Lib.hid hII
        have hd' : (730499 : Int) < d := by omega
        clear hII hd
        go_wp2_with fail
        go_ret
        exact ⟨_, rfl, by rw [← HII.out]; exact V, L2⟩
end Go.Proofs.YtoadkljaiegnlaaDoor
