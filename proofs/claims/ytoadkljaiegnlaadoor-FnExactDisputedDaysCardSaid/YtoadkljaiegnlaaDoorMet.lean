/- What a span and a list of spans have in common: the program's function. Printed by walks/gen_met.py. Conditions: how the lists lie. -/
import Derived.Test.YtoadkljaiegnlaaDoorMetP
import Derived.Test.YtoadkljaiegnlaaDoorAppPd
import Derived.IntWalk
namespace Go.Proofs.YtoadkljaiegnlaaDoor
open Go.RowKit
set_option maxRecDepth 100000 in
set_option maxHeartbeats 4000000 in
theorem i_met (b1 o1 c1 : Nat) (a : Sp) (A : Option Addr) (c : Nat) (R : List Sp) (w : World) (h1 : b1 < w.heap.size) (a0 : w.cell? ⟨b1, o1, none⟩ = some (.int .i64 a.1)) (a1 : w.cell? ⟨b1, o1 + 1, none⟩ = some (.int .i64 a.2)) (hR : InP w A R) (hn : R.length ≤ 1000000) :
    Calls Tryd.prog 54 #[.slice (some ⟨b1, o1, none⟩) 1 c1, .slice A R.length c] w fun e w' => ∃ v, e = .returned v ∧ OwnP w' w.heap.size v (met1 a R) ∧ Below w.heap.size w w' ∧ v ≠ .slice none 0 0 := by
  have HR := Lib.hid hR; clear hR
  have HG := Lib.hid (fun k hk (h : (R.getD k sp0).2 ≤ a.2) => met1_go a R k hk (by omega))
  have HE := Lib.hid (fun k => met1_end a R k)
  have HZ := Lib.hid (show met1 a (R.drop R.length) = [] from by simp [met1])
  have HM := Lib.hid (met1_len a R)
  obtain ⟨M, hM⟩ : ∃ M, met1 a R = M := ⟨_, rfl⟩
  have HS := Lib.hid (show met1 a (R.drop 0) = M from hM)
  rw [hM] at HM ⊢
  clear hM
  obtain ⟨n, hnn⟩ : ∃ n, R.length = n := ⟨_, rfl⟩
  unfold InP at HR
  rw [hnn] at HR HG HE HZ HM hn ⊢
  clear hnn
  obtain ⟨f, t⟩ := a
  dsimp only at a0 a1
  have A0 := Lib.hid a0
  have A1 := Lib.hid a1
  clear a0 a1
  go_enter Tryd.func54, Tryd.ntmps54
  go_wp2_with fail
  go_loopw [5, 6, 7] (fun o i k wr => ∃ (ii kk : Nat) (out : List Sp), ii ≤ 1 ∧ kk ≤ n ∧ i = .int .i64 ii ∧ k = .int .i64 kk ∧ OwnP wr w.heap.size o out ∧ o ≠ .slice none 0 0 ∧ out.length ≤ kk + ii ∧ Hid ((ii = 0 ∧ out ++ met1 (f, t) (R.drop kk) = M) ∨ (ii = 1 ∧ out = M)) ∧ Below w.heap.size w wr) (fun _ i k _ => (1 - (intOf i).toNat) + (n - (intOf k).toNat))
  case atStart => exact ⟨0, 0, [], by omega, by omega, rfl, rfl, OwnP.lit0 w, by simp, by simp, Lib.hid (.inl ⟨rfl, HS.out⟩), below_alloc _ _⟩
  case round =>
    obtain ⟨ii, kk, out, hii, hkk, rfl, rfl, V, hne, hol, HI, L⟩ := hrel
    have hw := L.size
    by_cases hlt : ii < 1 ∧ kk < n
    · obtain ⟨h0, hlt⟩ := hlt
      obtain rfl : ii = 0 := by omega
      obtain ⟨b, o, rfl, hb, hc⟩ := HR.out (by omega)
      obtain ⟨d0, d1⟩ := hc kk hlt
      have hg := HG.out kk hlt
      have he := HE.out kk hlt
      have hI : out ++ met1 (f, t) (R.drop kk) = M := by
        rcases HI.out with ⟨_, h⟩ | ⟨h, _⟩
        · exact h
        · omega
      obtain ⟨s, hs⟩ : ∃ s, R.getD kk sp0 = s := ⟨_, rfl⟩
      rw [hs] at d0 d1 hg he
      obtain ⟨x, y⟩ := s
      dsimp only at d0 d1 hg he
      have D0 := Lib.hid d0
      have D1 := Lib.hid d1
      replace d0 := (L.cell (p := ⟨b, o + kk * 2, none⟩) hb).trans d0
      replace d1 := (L.cell (p := ⟨b, o + kk * 2 + 1, none⟩) hb).trans d1
      have e0 := (L.cell (p := ⟨b1, o1, none⟩) h1).trans A0.out
      have e1 := (L.cell (p := ⟨b1, o1 + 1, none⟩) h1).trans A1.out
      have hmx : (if f < x then x else f) = max f x := by split <;> omega
      have hmn : (if y < t then y else t) = min t y := by split <;> omega
      have hmt : max f x ≤ min t y → mt (f, t) (x, y) = [(max f x, min t y)] := fun h => mt_T (a := (f, t)) (b := (x, y)) h
      have hmf : min t y < max f x → mt (f, t) (x, y) = [] := fun h => mt_F (a := (f, t)) (b := (x, y)) (fun h' => Int.not_le.2 h h')
      obtain ⟨X, hX⟩ : ∃ X, max f x = X := ⟨_, rfl⟩
      obtain ⟨Y, hY⟩ : ∃ Y, min t y = Y := ⟨_, rfl⟩
      rw [hX] at hmx hmt hmf
      rw [hY] at hmn hmt hmf
      have B := Blk.new wr 62 #[.int .i64 X, .int .i64 Y]
      have V1 := V.alloc (.cells #[.int .i64 X, .int .i64 Y] 62)
      have L1 := below_more L hw (.cells #[.int .i64 X, .int .i64 Y] 62)
      have hL1 := L1.size
      have HE := Lib.hid he
      have HGG := Lib.hid hg
      have HII := Lib.hid hI
      have hbw := Nat.lt_of_lt_of_le hb hw
      have hb1w := Nat.lt_of_lt_of_le h1 hw
      clear hc hs HI hX he hg hI
      have x0 := B.c0
      have x1 := B.c1
      clear hY
      go_wp2_with fail
      go_region
      by_cases hm : X ≤ Y
      · as_aux_lemma =>
          have HM2 := Lib.hid (hmt hm)
          clear hmt hmf
          go_wp2_with (at_builtin; refine wpList_appPd rfl _ _ rfl _ _ _ _ _ _ rfl V1 _ (by simp) rfl (by omega) hL1 ?_; intro v2 w3 V2 hg2; have L3 := V1.below_grown L1 hg2 hL1; have hs3 := own_snoc_some V2; replace d1 := (L3.cell (p := ⟨b, o + kk * 2 + 1, none⟩) hb).trans D1.out; replace e1 := (L3.cell (p := ⟨b1, o1 + 1, none⟩) h1).trans A1.out)
          clear V V1 L1 B x0 x1 d0 e0 hmx hmn hm
          go_quiet (fail)
          by_cases hty : t < y
          · go_wp2_with fail
            go_roundw
            case rel => exact ⟨1, kk, out ++ [(X, Y)], by omega, by omega, by go_num, rfl, V2.drewN _, hs3, by first | omega | (simp; omega), Lib.hid (.inr ⟨rfl, by have h := HII.out; rw [HE.out hty, HM2.out] at h; exact h⟩), below_drewN L3 _⟩
            case measure => first | (simp [intOf]; done) | (simp [intOf]; omega)
          · have hty' : decide (t < y) = false := by simpa using hty
            go_wp2_with fail
            go_roundw
            case rel => exact ⟨0, kk + 1, out ++ [(X, Y)], by omega, by omega, rfl, by go_num, V2.drewN _, hs3, by first | omega | (simp; omega), Lib.hid (.inl ⟨rfl, by have h := HII.out; rw [HGG.out (by omega), HM2.out] at h; rw [← List.append_assoc] at h; exact h⟩), below_drewN L3 _⟩
            case measure => first | (simp [intOf]; done) | (simp [intOf]; omega)
      · as_aux_lemma =>
          have HM2 := Lib.hid (hmf (by omega))
          have hm' : decide (X ≤ Y) = false := by simpa using hm
          clear hmt hmf
          go_wp2_with fail
          clear B x0 x1 d0 e0 hmx hmn
          go_quiet (fail)
          by_cases hty : t < y
          · go_wp2_with fail
            go_roundw
            case rel => exact ⟨1, kk, out, by omega, by omega, by go_num, rfl, V1.drewN _, hne, by first | omega | (simp; omega), Lib.hid (.inr ⟨rfl, by have h := HII.out; rw [HE.out hty, HM2.out] at h; rw [List.append_nil] at h; exact h⟩), below_drewN L1 _⟩
            case measure => first | (simp [intOf]; done) | (simp [intOf]; omega)
          · have hty' : decide (t < y) = false := by simpa using hty
            go_wp2_with fail
            go_roundw
            case rel => exact ⟨0, kk + 1, out, by omega, by omega, rfl, by go_num, V1.drewN _, hne, by first | omega | (simp; omega), Lib.hid (.inl ⟨rfl, by have h := HII.out; rw [HGG.out (by omega), HM2.out] at h; rw [List.nil_append] at h; exact h⟩), below_drewN L1 _⟩
            case measure => first | (simp [intOf]; done) | (simp [intOf]; omega)
    · have hM : out = M := by
        rcases HI.out with ⟨h, e⟩ | ⟨_, e⟩
        · obtain rfl : kk = n := by omega
          rw [HZ.out, List.append_nil] at e
          exact e
        · exact e
      subst hM
      clear HI
      by_cases hi1 : ii < 1
      · obtain rfl : ii = 0 := by omega
        have hkn : ¬ kk < n := by omega
        go_wp2_with fail
        go_ret
        exact ⟨_, rfl, V, L, hne⟩
      · obtain rfl : ii = 1 := by omega
        go_wp2_with fail
        go_ret
        exact ⟨_, rfl, V, L, hne⟩
end Go.Proofs.YtoadkljaiegnlaaDoor
