/- Texts put together: MetP Met Meet Oth Lim Make. No condition beyond those that stand in each. -/
import Derived.Test.YtmpgokijlikddaaGreatDoorRl2
import Derived.IntWalk
import Derived.Test.YtmpgokijlikddaaGreatDoorRl1
/- Spans that lie in a row, anywhere. Condition: how the row lies. -/
namespace Go.Proofs.YtmpgokijlikddaaGreatDoor
open Go.RowKit
/-- spans that lie in a row, anywhere -/
def InP (w : World) (p : Option Addr) (l : List Sp) : Prop :=
  0 < l.length → ∃ b o, p = some ⟨b, o, none⟩ ∧ b < w.heap.size ∧ ∀ j, j < l.length → w.cell? ⟨b, o + j * 2, none⟩ = some (.int .i64 (l.getD j sp0).1) ∧ w.cell? ⟨b, o + j * 2 + 1, none⟩ = some (.int .i64 (l.getD j sp0).2)
theorem InP.of_own {w : World} {b c n : Nat} {A : Option Addr} {l : List Sp} (h : OwnP w b (.slice A n c) l) : InP w A l := fun hl => by
  obtain ⟨_, P⟩ := h.at_
  obtain ⟨g, rfl, _, hg, hc, _⟩ := P hl
  exact ⟨g, 0, rfl, hg, fun j hj => by simpa using hc j hj⟩
theorem own_some {w : World} {b : Nat} {v : Value} {l : List Sp} (h : OwnP w b v l) (hl : 0 < l.length) : v ≠ .slice none 0 0 := by
  obtain ⟨_, A, c, rfl, P⟩ := h.opened
  obtain ⟨g, rfl, _⟩ := P hl
  simp
theorem own_snoc_some {w : World} {b : Nat} {v : Value} {l : List Sp} {s : Sp} (h : OwnP w b v (l ++ [s])) : v ≠ .slice none 0 0 := own_some h (by simp)
end Go.Proofs.YtmpgokijlikddaaGreatDoor
/- What a span and a list of spans have in common: the program's function. Printed by walks/gen_met.py. Conditions: how the lists lie. -/
namespace Go.Proofs.YtmpgokijlikddaaGreatDoor
open Go.RowKit
set_option maxRecDepth 100000 in
set_option maxHeartbeats 4000000 in
theorem i_met (b1 o1 c1 : Nat) (a : Sp) (A : Option Addr) (c : Nat) (R : List Sp) (w : World) (h1 : b1 < w.heap.size) (a0 : w.cell? ⟨b1, o1, none⟩ = some (.int .i64 a.1)) (a1 : w.cell? ⟨b1, o1 + 1, none⟩ = some (.int .i64 a.2)) (hR : InP w A R) (hn : R.length ≤ 1000000) :
    Calls Tryz.prog 75 #[.slice (some ⟨b1, o1, none⟩) 1 c1, .slice A R.length c] w fun e w' => ∃ v, e = .returned v ∧ OwnP w' w.heap.size v (met1 a R) ∧ Below w.heap.size w w' ∧ v ≠ .slice none 0 0 := by
  have HR := Lib.hid hR; clear hR
  have HG := Lib.hid (fun k hk (h : (R.getD k sp0).2 ≤ a.2) => met1_go a R k hk (by omega))
  have HE := Lib.hid (fun k => met1_end a R k)
  have HZ := Lib.hid (show met1 a (R.drop R.length) = [] from by simp [met1])
  have HM := Lib.hid (met1_len a R)
  obtain ⟨M, hM⟩ : ∃ M, met1 a R = M := ⟨_, rfl⟩
  have HS := Lib.hid (show met1 a (R.drop 0) = M from hM)
  rw [hM] at HM ⊢
  clear hM
  obtain ⟨n, hnn⟩ : ∃ n, R.length = n := ⟨_, rfl⟩
  unfold InP at HR
  rw [hnn] at HR HG HE HZ HM hn ⊢
  clear hnn
  obtain ⟨f, t⟩ := a
  dsimp only at a0 a1
  have A0 := Lib.hid a0
  have A1 := Lib.hid a1
  clear a0 a1
  go_enter Tryz.func75, Tryz.ntmps75
  go_wp2_with fail
  go_loopw [5, 6, 7] (fun o i k wr => ∃ (ii kk : Nat) (out : List Sp), ii ≤ 1 ∧ kk ≤ n ∧ i = .int .i64 ii ∧ k = .int .i64 kk ∧ OwnP wr w.heap.size o out ∧ o ≠ .slice none 0 0 ∧ out.length ≤ kk + ii ∧ Hid ((ii = 0 ∧ out ++ met1 (f, t) (R.drop kk) = M) ∨ (ii = 1 ∧ out = M)) ∧ Below w.heap.size w wr) (fun _ i k _ => (1 - (intOf i).toNat) + (n - (intOf k).toNat))
  case atStart => exact ⟨0, 0, [], by omega, by omega, rfl, rfl, OwnP.lit0 w, by simp, by simp, Lib.hid (.inl ⟨rfl, HS.out⟩), below_alloc _ _⟩
  case round =>
    obtain ⟨ii, kk, out, hii, hkk, rfl, rfl, V, hne, hol, HI, L⟩ := hrel
    have hw := L.size
    by_cases hlt : ii < 1 ∧ kk < n
    · obtain ⟨h0, hlt⟩ := hlt
      obtain rfl : ii = 0 := by omega
      obtain ⟨b, o, rfl, hb, hc⟩ := HR.out (by omega)
      obtain ⟨d0, d1⟩ := hc kk hlt
      have hg := HG.out kk hlt
      have he := HE.out kk hlt
      have hI : out ++ met1 (f, t) (R.drop kk) = M := by
        rcases HI.out with ⟨_, h⟩ | ⟨h, _⟩
        · exact h
        · omega
      obtain ⟨s, hs⟩ : ∃ s, R.getD kk sp0 = s := ⟨_, rfl⟩
      rw [hs] at d0 d1 hg he
      obtain ⟨x, y⟩ := s
      dsimp only at d0 d1 hg he
      have D0 := Lib.hid d0
      have D1 := Lib.hid d1
      replace d0 := (L.cell (p := ⟨b, o + kk * 2, none⟩) hb).trans d0
      replace d1 := (L.cell (p := ⟨b, o + kk * 2 + 1, none⟩) hb).trans d1
      have e0 := (L.cell (p := ⟨b1, o1, none⟩) h1).trans A0.out
      have e1 := (L.cell (p := ⟨b1, o1 + 1, none⟩) h1).trans A1.out
      have hmx : (if f < x then x else f) = max f x := by split <;> omega
      have hmn : (if y < t then y else t) = min t y := by split <;> omega
      have hmt : max f x ≤ min t y → mt (f, t) (x, y) = [(max f x, min t y)] := fun h => mt_T (a := (f, t)) (b := (x, y)) h
      have hmf : min t y < max f x → mt (f, t) (x, y) = [] := fun h => mt_F (a := (f, t)) (b := (x, y)) (fun h' => Int.not_le.2 h h')
      obtain ⟨X, hX⟩ : ∃ X, max f x = X := ⟨_, rfl⟩
      obtain ⟨Y, hY⟩ : ∃ Y, min t y = Y := ⟨_, rfl⟩
      rw [hX] at hmx hmt hmf
      rw [hY] at hmn hmt hmf
      have B := Blk.new wr 47 #[.int .i64 X, .int .i64 Y]
      have V1 := V.alloc (.cells #[.int .i64 X, .int .i64 Y] 47)
      have L1 := below_more L hw (.cells #[.int .i64 X, .int .i64 Y] 47)
      have hL1 := L1.size
      have HE := Lib.hid he
      have HGG := Lib.hid hg
      have HII := Lib.hid hI
      have hbw := Nat.lt_of_lt_of_le hb hw
      have hb1w := Nat.lt_of_lt_of_le h1 hw
      clear hc hs HI hX he hg hI
      have x0 := B.c0
      have x1 := B.c1
      clear hY
      go_wp2_with fail
      go_region
      by_cases hm : X ≤ Y
      · as_aux_lemma =>
          have HM2 := Lib.hid (hmt hm)
          clear hmt hmf
          go_wp2_with (at_builtin; refine wpList_appPd rfl _ _ rfl _ _ _ _ _ _ rfl V1 _ (by simp) rfl (by omega) hL1 ?_; intro v2 w3 V2 hg2; have L3 := V1.below_grown L1 hg2 hL1; have hs3 := own_snoc_some V2; replace d1 := (L3.cell (p := ⟨b, o + kk * 2 + 1, none⟩) hb).trans D1.out; replace e1 := (L3.cell (p := ⟨b1, o1 + 1, none⟩) h1).trans A1.out)
          clear V V1 L1 B x0 x1 d0 e0 hmx hmn hm
          go_quiet (fail)
          by_cases hty : t < y
          · go_wp2_with fail
            go_roundw
            case rel => exact ⟨1, kk, out ++ [(X, Y)], by omega, by omega, by go_num, rfl, V2.drewN _, hs3, by first | omega | (simp; omega), Lib.hid (.inr ⟨rfl, by have h := HII.out; rw [HE.out hty, HM2.out] at h; exact h⟩), below_drewN L3 _⟩
            case measure => first | (simp [intOf]; done) | (simp [intOf]; omega)
          · have hty' : decide (t < y) = false := by simpa using hty
            go_wp2_with fail
            go_roundw
            case rel => exact ⟨0, kk + 1, out ++ [(X, Y)], by omega, by omega, rfl, by go_num, V2.drewN _, hs3, by first | omega | (simp; omega), Lib.hid (.inl ⟨rfl, by have h := HII.out; rw [HGG.out (by omega), HM2.out] at h; rw [← List.append_assoc] at h; exact h⟩), below_drewN L3 _⟩
            case measure => first | (simp [intOf]; done) | (simp [intOf]; omega)
      · as_aux_lemma =>
          have HM2 := Lib.hid (hmf (by omega))
          have hm' : decide (X ≤ Y) = false := by simpa using hm
          clear hmt hmf
          go_wp2_with fail
          clear B x0 x1 d0 e0 hmx hmn
          go_quiet (fail)
          by_cases hty : t < y
          · go_wp2_with fail
            go_roundw
            case rel => exact ⟨1, kk, out, by omega, by omega, by go_num, rfl, V1.drewN _, hne, by first | omega | (simp; omega), Lib.hid (.inr ⟨rfl, by have h := HII.out; rw [HE.out hty, HM2.out] at h; rw [List.append_nil] at h; exact h⟩), below_drewN L1 _⟩
            case measure => first | (simp [intOf]; done) | (simp [intOf]; omega)
          · have hty' : decide (t < y) = false := by simpa using hty
            go_wp2_with fail
            go_roundw
            case rel => exact ⟨0, kk + 1, out, by omega, by omega, rfl, by go_num, V1.drewN _, hne, by first | omega | (simp; omega), Lib.hid (.inl ⟨rfl, by have h := HII.out; rw [HGG.out (by omega), HM2.out] at h; rw [List.nil_append] at h; exact h⟩), below_drewN L1 _⟩
            case measure => first | (simp [intOf]; done) | (simp [intOf]; omega)
    · have hM : out = M := by
        rcases HI.out with ⟨h, e⟩ | ⟨_, e⟩
        · obtain rfl : kk = n := by omega
          rw [HZ.out, List.append_nil] at e
          exact e
        · exact e
      subst hM
      clear HI
      by_cases hi1 : ii < 1
      · obtain rfl : ii = 0 := by omega
        have hkn : ¬ kk < n := by omega
        go_wp2_with fail
        go_ret
        exact ⟨_, rfl, V, L, hne⟩
      · obtain rfl : ii = 1 := by omega
        go_wp2_with fail
        go_ret
        exact ⟨_, rfl, V, L, hne⟩
end Go.Proofs.YtmpgokijlikddaaGreatDoor
/- What a span and a list of spans have in common: the reference's function. Printed by walks/gen_met.py. Conditions: how the lists lie. -/
namespace Go.Proofs.YtmpgokijlikddaaGreatDoor
open Go.RowKit
set_option maxRecDepth 100000 in
set_option maxHeartbeats 4000000 in
theorem s_Meet (b1 o1 c1 : Nat) (a : Sp) (A : Option Addr) (c : Nat) (R : List Sp) (w : World) (h1 : b1 < w.heap.size) (a0 : w.cell? ⟨b1, o1, none⟩ = some (.int .i64 a.1)) (a1 : w.cell? ⟨b1, o1 + 1, none⟩ = some (.int .i64 a.2)) (hR : InP w A R) (hn : R.length ≤ 1000000) :
    Calls Tryz.prog 72 #[.slice (some ⟨b1, o1, none⟩) 1 c1, .slice A R.length c] w fun e w' => ∃ v, e = .returned v ∧ OwnP w' w.heap.size v (met1 a R) ∧ Below w.heap.size w w' ∧ v ≠ .slice none 0 0 := by
  have HR := Lib.hid hR; clear hR
  have HG := Lib.hid (fun k hk (h : (R.getD k sp0).2 ≤ a.2) => met1_go a R k hk (by omega))
  have HE := Lib.hid (fun k => met1_end a R k)
  have HZ := Lib.hid (show met1 a (R.drop R.length) = [] from by simp [met1])
  have HM := Lib.hid (met1_len a R)
  obtain ⟨M, hM⟩ : ∃ M, met1 a R = M := ⟨_, rfl⟩
  have HS := Lib.hid (show met1 a (R.drop 0) = M from hM)
  rw [hM] at HM ⊢
  clear hM
  obtain ⟨n, hnn⟩ : ∃ n, R.length = n := ⟨_, rfl⟩
  unfold InP at HR
  rw [hnn] at HR HG HE HZ HM hn ⊢
  clear hnn
  obtain ⟨f, t⟩ := a
  dsimp only at a0 a1
  have A0 := Lib.hid a0
  have A1 := Lib.hid a1
  clear a0 a1
  go_enter Tryz.func72, Tryz.ntmps72
  go_wp2_with fail
  go_loopw [5, 6, 7] (fun o i k wr => ∃ (ii kk : Nat) (out : List Sp), ii ≤ 1 ∧ kk ≤ n ∧ i = .int .i64 ii ∧ k = .int .i64 kk ∧ OwnP wr w.heap.size o out ∧ o ≠ .slice none 0 0 ∧ out.length ≤ kk + ii ∧ Hid ((ii = 0 ∧ out ++ met1 (f, t) (R.drop kk) = M) ∨ (ii = 1 ∧ out = M)) ∧ Below w.heap.size w wr) (fun _ i k _ => (1 - (intOf i).toNat) + (n - (intOf k).toNat))
  case atStart => exact ⟨0, 0, [], by omega, by omega, rfl, rfl, OwnP.lit0 w, by simp, by simp, Lib.hid (.inl ⟨rfl, HS.out⟩), below_alloc _ _⟩
  case round =>
    obtain ⟨ii, kk, out, hii, hkk, rfl, rfl, V, hne, hol, HI, L⟩ := hrel
    have hw := L.size
    by_cases hlt : ii < 1 ∧ kk < n
    · obtain ⟨h0, hlt⟩ := hlt
      obtain rfl : ii = 0 := by omega
      obtain ⟨b, o, rfl, hb, hc⟩ := HR.out (by omega)
      obtain ⟨d0, d1⟩ := hc kk hlt
      have hg := HG.out kk hlt
      have he := HE.out kk hlt
      have hI : out ++ met1 (f, t) (R.drop kk) = M := by
        rcases HI.out with ⟨_, h⟩ | ⟨h, _⟩
        · exact h
        · omega
      obtain ⟨s, hs⟩ : ∃ s, R.getD kk sp0 = s := ⟨_, rfl⟩
      rw [hs] at d0 d1 hg he
      obtain ⟨x, y⟩ := s
      dsimp only at d0 d1 hg he
      have D0 := Lib.hid d0
      have D1 := Lib.hid d1
      replace d0 := (L.cell (p := ⟨b, o + kk * 2, none⟩) hb).trans d0
      replace d1 := (L.cell (p := ⟨b, o + kk * 2 + 1, none⟩) hb).trans d1
      have e0 := (L.cell (p := ⟨b1, o1, none⟩) h1).trans A0.out
      have e1 := (L.cell (p := ⟨b1, o1 + 1, none⟩) h1).trans A1.out
      have hmx : (if f < x then x else f) = max f x := by split <;> omega
      have hmn : (if y < t then y else t) = min t y := by split <;> omega
      have hmt : max f x ≤ min t y → mt (f, t) (x, y) = [(max f x, min t y)] := fun h => mt_T (a := (f, t)) (b := (x, y)) h
      have hmf : min t y < max f x → mt (f, t) (x, y) = [] := fun h => mt_F (a := (f, t)) (b := (x, y)) (fun h' => Int.not_le.2 h h')
      obtain ⟨X, hX⟩ : ∃ X, max f x = X := ⟨_, rfl⟩
      obtain ⟨Y, hY⟩ : ∃ Y, min t y = Y := ⟨_, rfl⟩
      rw [hX] at hmx hmt hmf
      rw [hY] at hmn hmt hmf
      have B := Blk.new wr 47 #[.int .i64 X, .int .i64 Y]
      have V1 := V.alloc (.cells #[.int .i64 X, .int .i64 Y] 47)
      have L1 := below_more L hw (.cells #[.int .i64 X, .int .i64 Y] 47)
      have hL1 := L1.size
      have HE := Lib.hid he
      have HGG := Lib.hid hg
      have HII := Lib.hid hI
      have hbw := Nat.lt_of_lt_of_le hb hw
      have hb1w := Nat.lt_of_lt_of_le h1 hw
      clear hc hs HI hX he hg hI
      have x0 := B.c0
      have x1 := B.c1
      clear hY
      go_wp2_with fail
      go_region
      by_cases hm : X ≤ Y
      · as_aux_lemma =>
          have HM2 := Lib.hid (hmt hm)
          clear hmt hmf
          go_wp2_with (at_builtin; refine wpList_appPd rfl _ _ rfl _ _ _ _ _ _ rfl V1 _ (by simp) rfl (by omega) hL1 ?_; intro v2 w3 V2 hg2; have L3 := V1.below_grown L1 hg2 hL1; have hs3 := own_snoc_some V2; replace d1 := (L3.cell (p := ⟨b, o + kk * 2 + 1, none⟩) hb).trans D1.out; replace e1 := (L3.cell (p := ⟨b1, o1 + 1, none⟩) h1).trans A1.out)
          clear V V1 L1 B x0 x1 d0 e0 hmx hmn hm
          go_quiet (fail)
          by_cases hty : t < y
          · go_wp2_with fail
            go_roundw
            case rel => exact ⟨1, kk, out ++ [(X, Y)], by omega, by omega, by go_num, rfl, V2.drewN _, hs3, by first | omega | (simp; omega), Lib.hid (.inr ⟨rfl, by have h := HII.out; rw [HE.out hty, HM2.out] at h; exact h⟩), below_drewN L3 _⟩
            case measure => first | (simp [intOf]; done) | (simp [intOf]; omega)
          · have hty' : decide (t < y) = false := by simpa using hty
            go_wp2_with fail
            go_roundw
            case rel => exact ⟨0, kk + 1, out ++ [(X, Y)], by omega, by omega, rfl, by go_num, V2.drewN _, hs3, by first | omega | (simp; omega), Lib.hid (.inl ⟨rfl, by have h := HII.out; rw [HGG.out (by omega), HM2.out] at h; rw [← List.append_assoc] at h; exact h⟩), below_drewN L3 _⟩
            case measure => first | (simp [intOf]; done) | (simp [intOf]; omega)
      · as_aux_lemma =>
          have HM2 := Lib.hid (hmf (by omega))
          have hm' : decide (X ≤ Y) = false := by simpa using hm
          clear hmt hmf
          go_wp2_with fail
          clear B x0 x1 d0 e0 hmx hmn
          go_quiet (fail)
          by_cases hty : t < y
          · go_wp2_with fail
            go_roundw
            case rel => exact ⟨1, kk, out, by omega, by omega, by go_num, rfl, V1.drewN _, hne, by first | omega | (simp; omega), Lib.hid (.inr ⟨rfl, by have h := HII.out; rw [HE.out hty, HM2.out] at h; rw [List.append_nil] at h; exact h⟩), below_drewN L1 _⟩
            case measure => first | (simp [intOf]; done) | (simp [intOf]; omega)
          · have hty' : decide (t < y) = false := by simpa using hty
            go_wp2_with fail
            go_roundw
            case rel => exact ⟨0, kk + 1, out, by omega, by omega, rfl, by go_num, V1.drewN _, hne, by first | omega | (simp; omega), Lib.hid (.inl ⟨rfl, by have h := HII.out; rw [HGG.out (by omega), HM2.out] at h; rw [List.nil_append] at h; exact h⟩), below_drewN L1 _⟩
            case measure => first | (simp [intOf]; done) | (simp [intOf]; omega)
    · have hM : out = M := by
        rcases HI.out with ⟨h, e⟩ | ⟨_, e⟩
        · obtain rfl : kk = n := by omega
          rw [HZ.out, List.append_nil] at e
          exact e
        · exact e
      subst hM
      clear HI
      by_cases hi1 : ii < 1
      · obtain rfl : ii = 0 := by omega
        have hkn : ¬ kk < n := by omega
        go_wp2_with fail
        go_ret
        exact ⟨_, rfl, V, L, hne⟩
      · obtain rfl : ii = 1 := by omega
        go_wp2_with fail
        go_ret
        exact ⟨_, rfl, V, L, hne⟩
end Go.Proofs.YtmpgokijlikddaaGreatDoor
/- What is left of all days beside a list of spans: the program's and the reference's functions. Conditions: how the list lies; bounds of its spans. -/
namespace Go.Proofs.YtmpgokijlikddaaGreatDoor
open Go.RowKit
set_option maxRecDepth 100000 in
set_option maxHeartbeats 4000000 in
theorem i_oth {b : Nat} {v : Value} {L : List Sp} (w : World) (h : OwnP w b v L) (hl : L.length ≤ 100000) (hb : ∀ s ∈ L, spB s) :
    Calls Tryz.prog 134 #[v] w fun e w' => ∃ v', e = .returned v' ∧ OwnP w' w.heap.size v' (rst 0 L) ∧ Below w.heap.size w w' := by
  have HS := Lib.hid (fun a k hk => rst_step a L k hk)
  have HE := Lib.hid (fun a => rst_end a L)
  have HB := Lib.hid (fun (j : Nat) (hj : j < L.length) => hb _ (getD_mem (l := L) (j := j) hj))
  obtain ⟨M, hM⟩ : ∃ M, rst 0 L = M := ⟨_, rfl⟩
  have H0 := Lib.hid (show rst 0 (L.drop 0) = M from hM)
  rw [hM]
  obtain ⟨_, A1, c1, rfl, P1⟩ := h.opened
  have HP := Lib.hid P1
  clear P1 hM hb h
  obtain ⟨n, hnn⟩ : ∃ n, L.length = n := ⟨_, rfl⟩
  rw [hnn] at HS HE HB HP hl ⊢
  clear hnn
  go_enter Tryz.func134, Tryz.ntmps134
  go_wp2_with fail
  go_loopw [3, 4, 10] (fun o a i wr => ∃ (j : Nat) (d : Int) (out : List Sp), j ≤ n ∧ i = .int .i64 j ∧ a = .int .i64 d ∧ 0 ≤ d ∧ d ≤ 1000001 ∧ OwnP wr w.heap.size o out ∧ out.length ≤ j ∧ Hid (out ++ rst d (L.drop j) = M) ∧ Below w.heap.size w wr) (fun _ _ i _ => n - (intOf i).toNat)
  case atStart => exact ⟨0, 0, [], by omega, rfl, rfl, by omega, by omega, OwnP.lit0 w, by simp, H0, below_alloc _ _⟩
  case round =>
    obtain ⟨j, d, out, hj, rfl, rfl, hd0, hd1, V, hol, HI, L2⟩ := hrel
    have hw := L2.size
    by_cases hlt : j < n
    · obtain ⟨g1, rfl, _, hg1, hc1, _⟩ := HP.out (by omega)
      obtain ⟨d0, d1⟩ := hc1 j hlt
      replace d0 := (L2.cell (p := ⟨g1, j * 2, none⟩) hg1).trans d0
      replace d1 := (L2.cell (p := ⟨g1, j * 2 + 1, none⟩) hg1).trans d1
      obtain ⟨s0, s1, s2, s3⟩ := HB.out j hlt
      have hst := HS.out d j hlt
      have hg1w := Nat.lt_of_lt_of_le hg1 hw
      obtain ⟨s, hs⟩ : ∃ s, L.getD j sp0 = s := ⟨_, rfl⟩
      rw [hs] at d0 d1 s0 s1 s2 s3 hst
      obtain ⟨x, y⟩ := s
      dsimp only at d0 d1 s0 s1 s2 s3 hst
      have hII := HI.out
      clear hc1 hs HI
      have X := Blk.new wr 47 #[.int .i64 x, .int .i64 y]
      have hne : Value.ownBlock _ = some wr.heap.size → False := fun e => Nat.lt_irrefl _ (V.lt _ e).2
      have V1 := V.alloc (.cells #[.int .i64 x, .int .i64 y] 47)
      have L1 := below_more L2 hw (.cells #[.int .i64 x, .int .i64 y] 47)
      have hL1 := L1.size
      have x0 := X.c0
      have x1 := X.c1
      clear V
      by_cases hax : d < x
      · rw [if_pos hax] at hst
        rw [hst, ← List.append_assoc] at hII
        have HII := Lib.hid hII
        have HX := Lib.hid X
        clear hst hII X
        go_wp2_with (at_builtin; refine wpList_appP rfl _ _ rfl _ _ _ _ _ _ rfl V1 _ (by simp) rfl (by omega) hL1 ?_; intro v2 w3 V2 hg2; have L3 := V1.below_grown L1 hg2 hL1; have x1 := (HX.out.grown hg2 (fun e => hne e.symm)).c1)
        go_roundw
        case rel => exact ⟨j + 1, y + 1, out ++ [(d, x - 1)], by omega, by go_num, by first | rfl | go_num, by omega, by omega, V2, by simp; omega, HII, L3⟩
        case measure => simp [intOf]; omega
      · rw [if_neg hax, List.nil_append] at hst
        rw [hst] at hII
        have HII := Lib.hid hII
        have hax' : x ≤ d := by omega
        clear hst hII X hax hne
        go_wp2_with fail
        go_roundw
        case rel => exact ⟨j + 1, y + 1, out, by omega, by go_num, by first | rfl | go_num, by omega, by omega, V1, by omega, HII, L1⟩
        case measure => simp [intOf]; omega
    · obtain rfl : j = n := by omega
      have hE := HE.out d
      have hII := HI.out
      rw [hE] at hII
      clear hE HI
      by_cases hd : d ≤ 730499
      · rw [if_pos hd] at hII
        have HII := Lib.hid hII
        clear hII
        go_wp2_with (at_builtin; refine wpList_appP rfl _ _ rfl _ _ _ _ _ _ rfl V _ (by simp) rfl (by omega) hw ?_; intro v2 w3 V2 hg2)
        go_ret
        exact ⟨_, rfl, by rw [← HII.out]; exact V2, V.below_grown L2 hg2 hw⟩
      · rw [if_neg hd, List.append_nil] at hII
        have HII := Lib.hid hII
        have hd' : (730499 : Int) < d := by omega
        clear hII hd
        go_wp2_with fail
        go_ret
        exact ⟨_, rfl, by rw [← HII.out]; exact V, L2⟩
set_option maxRecDepth 100000 in
set_option maxHeartbeats 4000000 in
theorem s_oth {b : Nat} {v : Value} {L : List Sp} (w : World) (h : OwnP w b v L) (hl : L.length ≤ 100000) (hb : ∀ s ∈ L, spB s) :
    Calls Tryz.prog 73 #[v] w fun e w' => ∃ v', e = .returned v' ∧ OwnP w' w.heap.size v' (rst 0 L) ∧ Below w.heap.size w w' := by
  have HS := Lib.hid (fun a k hk => rst_step a L k hk)
  have HE := Lib.hid (fun a => rst_end a L)
  have HB := Lib.hid (fun (j : Nat) (hj : j < L.length) => hb _ (getD_mem (l := L) (j := j) hj))
  obtain ⟨M, hM⟩ : ∃ M, rst 0 L = M := ⟨_, rfl⟩
  have H0 := Lib.hid (show rst 0 (L.drop 0) = M from hM)
  rw [hM]
  obtain ⟨_, A1, c1, rfl, P1⟩ := h.opened
  have HP := Lib.hid P1
  clear P1 hM hb h
  obtain ⟨n, hnn⟩ : ∃ n, L.length = n := ⟨_, rfl⟩
  rw [hnn] at HS HE HB HP hl ⊢
  clear hnn
  go_enter Tryz.func73, Tryz.ntmps73
  go_wp2_with fail
  go_loopw [3, 4, 5] (fun o a i wr => ∃ (j : Nat) (d : Int) (out : List Sp), j ≤ n ∧ i = .int .i64 j ∧ a = .int .i64 d ∧ 0 ≤ d ∧ d ≤ 1000001 ∧ OwnP wr w.heap.size o out ∧ out.length ≤ j ∧ Hid (out ++ rst d (L.drop j) = M) ∧ Below w.heap.size w wr) (fun _ _ i _ => n - (intOf i).toNat)
  case atStart => exact ⟨0, 0, [], by omega, rfl, rfl, by omega, by omega, OwnP.lit0 w, by simp, H0, below_alloc _ _⟩
  case round =>
    obtain ⟨j, d, out, hj, rfl, rfl, hd0, hd1, V, hol, HI, L2⟩ := hrel
    have hw := L2.size
    by_cases hlt : j < n
    · obtain ⟨g1, rfl, _, hg1, hc1, _⟩ := HP.out (by omega)
      obtain ⟨d0, d1⟩ := hc1 j hlt
      have D1 := Lib.hid d1
      replace d0 := (L2.cell (p := ⟨g1, j * 2, none⟩) hg1).trans d0
      replace d1 := (L2.cell (p := ⟨g1, j * 2 + 1, none⟩) hg1).trans d1
      obtain ⟨s0, s1, s2, s3⟩ := HB.out j hlt
      have hst := HS.out d j hlt
      have hg1w := Nat.lt_of_lt_of_le hg1 hw
      obtain ⟨s, hs⟩ : ∃ s, L.getD j sp0 = s := ⟨_, rfl⟩
      rw [hs] at d0 d1 s0 s1 s2 s3 hst D1
      obtain ⟨x, y⟩ := s
      dsimp only at d0 d1 s0 s1 s2 s3 hst D1
      have hII := HI.out
      clear hc1 hs HI
      by_cases hax : d < x
      · rw [if_pos hax] at hst
        rw [hst, ← List.append_assoc] at hII
        have HII := Lib.hid hII
        clear hst hII
        go_wp2_with (at_builtin; refine wpList_appP rfl _ _ rfl _ _ _ _ _ _ rfl V _ (by simp) rfl (by omega) hw ?_; intro v2 w3 V2 hg2; have L3 := V.below_grown L2 hg2 hw; have d1 := (L3.cell (p := ⟨g1, j * 2 + 1, none⟩) hg1).trans D1.out; have hg3w := Nat.lt_of_lt_of_le hg1 L3.size)
        go_roundw
        case rel => exact ⟨j + 1, y + 1, out ++ [(d, x - 1)], by omega, by go_num, by first | rfl | go_num, by omega, by omega, V2, by simp; omega, HII, L3⟩
        case measure => simp [intOf]; omega
      · rw [if_neg hax, List.nil_append] at hst
        rw [hst] at hII
        have HII := Lib.hid hII
        have hax' : x ≤ d := by omega
        clear hst hII hax
        go_wp2_with fail
        go_roundw
        case rel => exact ⟨j + 1, y + 1, out, by omega, by go_num, by first | rfl | go_num, by omega, by omega, V, by omega, HII, L2⟩
        case measure => simp [intOf]; omega
    · obtain rfl : j = n := by omega
      have hE := HE.out d
      have hII := HI.out
      rw [hE] at hII
      clear hE HI
      by_cases hd : d ≤ 730499
      · rw [if_pos hd] at hII
        have HII := Lib.hid hII
        clear hII
        go_wp2_with (at_builtin; refine wpList_appP rfl _ _ rfl _ _ _ _ _ _ rfl V _ (by simp) rfl (by omega) hw ?_; intro v2 w3 V2 hg2)
        go_ret
        exact ⟨_, rfl, by rw [← HII.out]; exact V2, V.below_grown L2 hg2 hw⟩
      · rw [if_neg hd, List.append_nil] at hII
        have HII := Lib.hid hII
        have hd' : (730499 : Int) < d := by omega
        clear hII hd
        go_wp2_with fail
        go_ret
        exact ⟨_, rfl, by rw [← HII.out]; exact V, L2⟩
end Go.Proofs.YtmpgokijlikddaaGreatDoor
/- The program's limited. Conditions: how the list lies; at most 300 spans. -/
namespace Go.Proofs.YtmpgokijlikddaaGreatDoor
open Go.RowKit
theorem i_lim {b : Nat} {v : Value} {l : List Sp} (w : World) (h : OwnP w b v l) (hl : l.length ≤ 300) : Calls Tryz.prog 67 #[v] w fun e w' => e = .returned (.tuple #[v, .int .i64 0]) ∧ w = w' := by
  obtain ⟨_, A, c, rfl, _⟩ := h.opened
  clear h
  obtain ⟨n, hn⟩ : ∃ n, l.length = n := ⟨_, rfl⟩
  rw [hn] at hl ⊢
  clear hn
  go_enter Tryz.func67, Tryz.ntmps67
  go_wp2_with fail
  go_ret2
  exact ⟨rfl, rfl⟩
end Go.Proofs.YtmpgokijlikddaaGreatDoor
/- The set of all days of spans, by the reference: put in order, then united. Conditions: how the spans lie; not too many; their bounds. -/
namespace Go.Proofs.YtmpgokijlikddaaGreatDoor
open Go.RowKit
set_option maxRecDepth 100000 in
set_option maxHeartbeats 8000000 in
theorem s_Make {b : Nat} {v : Value} {l : List Sp} (w : World) (h : OwnP w b v l) (hl : l.length ≤ 1000) (hb : ∀ s ∈ l, spB s) :
    Calls Tryz.prog 139 #[v] w fun e w' => ∃ v', e = .returned v' ∧ OwnP w' w.heap.size v' (uni l) ∧ Below w.heap.size w w' := by
  obtain ⟨_, A, c, rfl, p⟩ := h.opened
  have HI := Lib.hid (fun k => isr_succ l k)
  have HL := Lib.hid (fun k => isr_len l k)
  have HE := Lib.hid (isr_all l)
  clear h
  obtain ⟨n, hn⟩ : ∃ n, l.length = n := ⟨_, rfl⟩
  rw [hn] at p hl HI HL HE ⊢
  have HP := Lib.hid p; clear p
  have HB := Lib.hid hb; clear hb
  go_enter Tryz.func139, Tryz.ntmps139
  go_wp2_with fail
  go_loopw [3, 4] (fun o i wr => ∃ k : Nat, k ≤ n ∧ i = .int .i64 k ∧ OwnP wr w.heap.size o (isr l k) ∧ Below w.heap.size w wr) (fun _ i _ => n - (intOf i).toNat)
  case atStart => exact ⟨0, by omega, rfl, OwnP.lit0 w, below_alloc _ _⟩
  case round =>
    obtain ⟨k, hk, rfl, V, L⟩ := hrel
    by_cases hlt : k < n
    · obtain ⟨gi, rfl, _, hgi, hci, _⟩ := HP.out (by omega)
      obtain ⟨d0, d1⟩ := hci k hlt
      clear hci
      have hnext := HI.out k hlt
      have hS := HL.out k hk
      obtain ⟨s, hs⟩ : ∃ s, l.getD k sp0 = s := ⟨_, rfl⟩
      rw [hs] at d0 d1 hnext
      obtain ⟨S, hSS⟩ : ∃ S, isr l k = S := ⟨_, rfl⟩
      rw [hSS] at V hS hnext
      clear hs hSS
      obtain ⟨x, y⟩ := s
      have hgw := Nat.lt_of_lt_of_le hgi L.size
      obtain ⟨_, A1, c1, rfl, P1⟩ := V.opened
      rw [hS] at V P1 ⊢
      have HP1 := Lib.hid P1; clear P1
      have HNX := Lib.hid hnext; clear hnext
      dsimp only at d0 d1
      have HD0 := Lib.hid d0
      have HD1 := Lib.hid d1
      replace d0 := (L.cell (p := ⟨gi, k * 2, none⟩) hgi).trans d0
      replace d1 := (L.cell (p := ⟨gi, k * 2 + 1, none⟩) hgi).trans d1
      go_wp2_with fail
      go_loopw [5] (fun q wr' => ∃ t : Nat, t ≤ k ∧ q = .int .i64 t ∧ Hid (∀ j, j < t → (S.getD j sp0).1 ≤ x) ∧ ∃ d, wr' = wr.drewN d) (fun q _ => k - (intOf q).toNat)
      case atStart => exact ⟨0, by omega, rfl, Lib.hid (fun j h => absurd h (Nat.not_lt_zero j)), 0, rfl⟩
      case round =>
        obtain ⟨t, ht, rfl, HT, d, rfl⟩ := hrel
        by_cases hgo : t < k ∧ (S.getD t sp0).1 ≤ x
        · obtain ⟨ht2, hle⟩ := hgo
          obtain ⟨g1, rfl, _, hg1, hc1, _⟩ := HP1.out (by omega)
          obtain ⟨e0, _⟩ := hc1 t ht2
          clear hc1
          obtain ⟨z, hz⟩ : ∃ z, (S.getD t sp0).1 = z := ⟨_, rfl⟩
          rw [hz] at hle e0
          go_wp2_with fail
          go_quiet (fail)
          go_wp2_with fail
          go_roundw
          case rel => exact ⟨t + 1, by omega, by go_num, Lib.hid (by intro j hj; by_cases hjt : j = t; (subst hjt; rw [hz]; exact hle); exact HT.out j (by omega)), _, rfl⟩
          case measure => simp [intOf]; omega
        · have hins : ins (x, y) S = insAt t (x, y) S := ins_at (x, y) t S (by omega) HT.out (fun h1 => by
            rw [hS] at h1
            have : ¬ (S.getD t sp0).1 ≤ x := fun h2 => hgo ⟨h1, h2⟩
            show x < _; omega)
          have HN2 := Lib.hid (HNX.out.trans hins)
          clear hins HT HNX
          have hways : (¬ t < k ∧ ¬ (t : Int) < (k : Int)) ∨ (t < k ∧ ¬ (S.getD t sp0).1 ≤ x) := by
            by_cases h1 : t < k
            · exact .inr ⟨h1, fun h2 => hgo ⟨h1, h2⟩⟩
            · exact .inl ⟨h1, by omega⟩
          clear hgo
          have hLs := L.size
          have hEnd : S ++ [((0, 0) : Sp)] = insAt S.length (0, 0) S := insAt_end (0, 0) S
          have hsub2 : IntKind.i64.wrap (((k + 1 : Nat) : Int) - 1) = (k : Int) := by rw [IntWalk.i64_in _ (by omega)]; omega
          have HG := Lib.hid (fun (j : Nat) (x0 : Sp) (hj : j + 1 ≤ k) => insAt_get j x0 S (by omega))
          have HK := Lib.hid (fun (j : Nat) (x0 : Sp) (hj : j + 1 ≤ k) => insAt_back j x0 S (by omega))
          have HQ := Lib.hid (fun (x0 y0 : Sp) => insAt_set t x0 y0 S (by omega))
          have HN := Lib.hid (fun (j : Nat) (x0 : Sp) => (insAt_len j x0 S).trans (by rw [hS]))
          have hN1 : (S ++ [((0, 0) : Sp)]).length = k + 1 := by simp [hS]
          rw [hS] at hEnd
          have HEND := Lib.hid hEnd
          have HN1 := Lib.hid hN1
          have hlS : S.length ≤ 10000000 := by omega
          clear hEnd hN1 hS
          rcases hways with ⟨h1, h2⟩ | ⟨ht2, hle⟩
          rotate_left
          obtain ⟨g1, rfl, _, hg1, hc1, _⟩ := HP1.out (by omega)
          obtain ⟨e0, _⟩ := hc1 t ht2
          clear hc1
          obtain ⟨z, hz⟩ : ∃ z, (S.getD t sp0).1 = z := ⟨_, rfl⟩
          rw [hz] at hle e0
          have hle' : decide (z ≤ x) = false := by simpa using hle
          have hlt' : x < z := by omega
          clear hle hz
          all_goals
            go_wp2_with fail
            go_quiet (fail)
            go_wp2_with (at_builtin; refine wpList_appP rfl _ _ rfl _ _ _ _ _ _ rfl (V.drewN _) _ rfl rfl hlS hLs ?_; intro v2 w2 V2 hg2; have L2 := (V.drewN _).below_grown (below_drewN L _) hg2 hLs; obtain ⟨_, A2, c2, rfl, _⟩ := V2.opened; rw [HN1.out] at V2 ⊢; rw [HEND.out] at V2; clear hg2 V L)
            obtain ⟨g2, rfl, _⟩ := V2.at_.2 (by rw [HN.out]; omega)
            go_loopw [6] (fun r wr' => ∃ rr : Nat, t ≤ rr ∧ rr ≤ k ∧ r = .int .i64 rr ∧ (∃ x0, OwnP wr' w.heap.size (.slice (some ⟨g2, 0, none⟩) (k + 1) c2) (insAt rr x0 S)) ∧ Below w.heap.size w wr') (fun r _ => (intOf r).toNat)
            case atStart => exact ⟨k, by omega, by omega, rfl, ⟨_, V2⟩, L2⟩
            case round =>
              clear V2 L2
              obtain ⟨rr, ht1, hrk, rfl, ⟨x0, V2⟩, L2⟩ := hrel
              have hpos : 0 < (insAt rr x0 S).length := by rw [HN.out]; omega
              obtain ⟨hnn, hb2, hgw2, hc2, hf2⟩ := V2.atg hpos
              have hLs2 := L2.size
              by_cases hgt : t < rr
              · obtain ⟨j, rfl⟩ : ∃ j, rr = j + 1 := ⟨rr - 1, by omega⟩
                obtain ⟨a0, a1⟩ := hc2 j (by rw [HN.out]; omega)
                rw [HG.out j x0 (by omega)] at a0 a1
                obtain ⟨b0, b1⟩ := hc2 (j + 1) (by rw [HN.out]; omega)
                have f0 := hf2 ((j + 1) * 2)
                have f1 := hf2 ((j + 1) * 2 + 1)
                have hback := HK.out j x0 (by omega)
                obtain ⟨pp, hpp⟩ : ∃ pp, S.getD j sp0 = pp := ⟨_, rfl⟩
                obtain ⟨oo, hoo⟩ : ∃ oo, (insAt (j + 1) x0 S).getD (j + 1) sp0 = oo := ⟨_, rfl⟩
                rw [hpp] at a0 a1 hback
                rw [hoo] at b0 b1
                obtain ⟨p, q⟩ := pp
                obtain ⟨o0, o1⟩ := oo
                have hset := V2.setAt hnn (j + 1) (by rw [HN.out]; omega) p q
                rw [hback] at hset
                obtain ⟨V3, hg3⟩ := hset
                have L3 := V2.below_grown L2 hg3 hLs2
                have hsub3 : IntKind.i64.wrap (((j + 1 : Nat) : Int) - 1) = (j : Int) := by rw [IntWalk.i64_in _ (by omega)]; omega
                dsimp only at a0 a1 b0 b1
                clear hc2 hf2 hback V2 L2 hg3 hnn hpos hoo hpp
                first
                  | omega
                  | (go_wp2_with fail
                     go_roundw
                     case rel => exact ⟨j, by omega, by omega, by go_num, ⟨_, V3⟩, L3⟩
                     case measure => simp [intOf])
              · obtain rfl : rr = t := by omega
                obtain ⟨b0, b1⟩ := hc2 rr (by rw [HN.out]; omega)
                have f0 := hf2 (rr * 2)
                have f1 := hf2 (rr * 2 + 1)
                obtain ⟨oo, hoo⟩ : ∃ oo, (insAt rr x0 S).getD rr sp0 = oo := ⟨_, rfl⟩
                rw [hoo] at b0 b1
                obtain ⟨o0, o1⟩ := oo
                have hset := V2.setAt hnn rr (by rw [HN.out]; omega) x y
                rw [HQ.out, ← HN2.out] at hset
                obtain ⟨V3, hg3⟩ := hset
                have L3 := V2.below_grown L2 hg3 hLs2
                have e0 := (L2.cell (p := ⟨gi, k * 2, none⟩) hgi).trans (HD0.out)
                have e1 := (L2.cell (p := ⟨gi, k * 2 + 1, none⟩) hgi).trans (HD1.out)
                have hgw3 := Nat.lt_of_lt_of_le hgi L2.size
                dsimp only at b0 b1
                clear hc2 hf2 V2 L2 hg3 hnn hpos hoo
                go_wp2_with fail
                go_roundw
                case rel => exact ⟨k + 1, by omega, by go_num, V3, L3⟩
                case measure => simp [intOf]; omega
    · obtain rfl : k = n := by omega
      have hT := HL.out k (Nat.le_refl _)
      rw [HE.out] at V hT
      have hbd := isort_bd HB.out
      have hU : uni l = mrg (isort l) := rfl
      obtain ⟨T, hTT⟩ : ∃ T, isort l = T := ⟨_, rfl⟩
      rw [hTT] at V hT hbd hU
      have hA := mgr_all T
      have HBD := Lib.hid (fun (j : Nat) => mgr_bd hbd j)
      have HTB := Lib.hid (fun (j : Nat) (hj : j < k) => hbd _ (getD_mem (l := T) (j := j) (by omega)))
      have HNX := Lib.hid (fun (j : Nat) (hj : j < k) => mgr_succ T j (by omega))
      have HML := Lib.hid (fun j => mgr_len T j)
      rw [hT] at hA
      have HU := Lib.hid (hU.trans hA.symm)
      have hLs := L.size
      obtain ⟨_, A1, c1, rfl, P1⟩ := V.opened
      rw [hT] at P1 ⊢
      have HP1 := Lib.hid P1
      clear P1 hU hA hbd hTT V HP HB HI HL HE hn
      go_wp2_with fail
      go_loopw [7, 8] (fun o i wr' => ∃ j : Nat, j ≤ k ∧ i = .int .i64 j ∧ OwnP wr' wr.heap.size o (mgr T j).reverse ∧ Below wr.heap.size wr wr') (fun _ i _ => k - (intOf i).toNat)
      case atStart => exact ⟨0, by omega, rfl, OwnP.lit0 wr, below_alloc _ _⟩
      case round =>
        obtain ⟨j, hj, rfl, V, L2⟩ := hrel
        have hL2 := L2.size
        by_cases hlt : j < k
        · obtain ⟨g1, rfl, _, hg1, hc1, _⟩ := HP1.out (by omega)
          obtain ⟨d0, d1⟩ := hc1 j hlt
          replace d0 := (L2.cell (p := ⟨g1, j * 2, none⟩) hg1).trans d0
          replace d1 := (L2.cell (p := ⟨g1, j * 2 + 1, none⟩) hg1).trans d1
          obtain ⟨s0, s1, s2, s3⟩ := HTB.out j hlt
          have hnext := HNX.out j hlt
          have hml := HML.out j
          have hbd := HBD.out j
          have hg1w := Nat.lt_of_lt_of_le hg1 hL2
          obtain ⟨s, hs⟩ : ∃ s, T.getD j sp0 = s := ⟨_, rfl⟩
          rw [hs] at d0 d1 s0 s1 s2 s3 hnext
          obtain ⟨x, y⟩ := s
          dsimp only at d0 d1 s0 s1 s2 s3
          obtain ⟨D, hD⟩ : ∃ D, mgr T j = D := ⟨_, rfl⟩
          rw [hD] at V hnext hml hbd
          clear hD hc1 hs
          cases D with
          | nil =>
            have HN := Lib.hid hnext; clear hnext hbd
            obtain ⟨_, A2, c2, rfl, _⟩ := V.opened
            have hn0 : ([] : List Sp).reverse.length = 0 := rfl
            rw [hn0] at V ⊢
            go_wp2_with fail
            go_quiet (fail)
            go_wp2_with (at_builtin; refine wpList_appP rfl _ _ rfl _ _ _ _ _ _ rfl (V.drewN _) _ rfl rfl (by simp) hL2 ?_; intro v2 w2 V2 hg2)
            go_roundw
            case rel => exact ⟨j + 1, by omega, by go_num, by rw [HN.out]; exact V2, (V.drewN _).below_grown (below_drewN L2 _) hg2 hL2⟩
            case measure => simp [intOf]; omega
          | cons t r =>
            obtain ⟨t0, t1, t2, t3⟩ := hbd t (List.mem_cons_self ..)
            clear hbd
            have hr1 : (t :: r).reverse.length = r.length + 1 := by simp
            obtain ⟨_, A2, c2, rfl, P⟩ := V.opened
            rw [hr1] at V P ⊢
            obtain ⟨g, rfl, hg0, hg2, hcs, hfr⟩ := P (by omega)
            obtain ⟨_, e1⟩ := hcs r.length (by omega)
            rw [last_get] at e1
            have hf := hfr (r.length * 2 + 1)
            clear hcs hfr P
            simp only [List.length_cons] at hml
            have hsub : IntKind.i64.wrap (((r.length + 1 : Nat) : Int) - 1) = (r.length : Int) := by rw [IntWalk.i64_in _ (by omega)]; omega
            have hset := fun q u => (V.drewN q).set1 hr1.symm r.length (by omega) u
            rw [last_get] at hset
            simp only [last_set] at hset
            obtain ⟨tf, tt⟩ := t
            dsimp only at t0 t1 t2 t3 e1 hset
            by_cases hc : x ≤ tt + 1
            · rw [mst_yes (show ((x, y) : Sp).1 ≤ ((tf, tt) : Sp).2 + 1 from hc)] at hnext
              dsimp only at hnext
              have hme : (if tt < y then y else tt) = max tt y := by split <;> omega
              have HN := Lib.hid hnext
              clear hnext
              go_wp2_with fail
              go_quiet (fail)
              go_wp2_with fail
              go_region
              have hg3 := hset (nq + 1) (max tt y)
              have L3 := (V.drewN (nq + 1)).below_grown (below_drewN L2 _) hg3.2 hL2
              go_wp2_with fail
              go_roundw
              case rel => exact ⟨j + 1, by omega, by go_num, by rw [HN.out]; exact hg3.1, L3⟩
              case measure => simp [intOf]; omega
            · rw [mst_no (show ¬ ((x, y) : Sp).1 ≤ ((tf, tt) : Sp).2 + 1 from hc)] at hnext
              have HN := Lib.hid hnext
              clear hnext hset
              have hc' : decide (x ≤ tt + 1) = false := by simpa using hc
              have hlt3 : tt + 1 < x := by omega
              clear hc
              go_wp2_with fail
              go_quiet (fail)
              go_wp2_with (at_builtin; refine wpList_appP rfl _ _ rfl _ _ _ _ _ _ rfl (V.drewN _) _ rfl rfl (by simp; omega) hL2 ?_; intro v2 w2 V2 hg2)
              go_roundw
              case rel => exact ⟨j + 1, by omega, by go_num, by rw [HN.out, List.reverse_cons]; exact V2, (V.drewN _).below_grown (below_drewN L2 _) hg2 hL2⟩
              case measure => simp [intOf]; omega
        · obtain rfl : j = k := by omega
          go_wp2_with fail
          go_ret
          exact ⟨_, rfl, by rw [HU.out]; exact V.mono hLs, L.trans (L2.mono hLs)⟩
end Go.Proofs.YtmpgokijlikddaaGreatDoor
