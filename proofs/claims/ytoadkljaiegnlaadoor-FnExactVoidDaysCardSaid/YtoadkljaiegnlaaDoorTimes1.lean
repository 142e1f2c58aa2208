/- The days that are in at least one of a list of reigns: the reference's function. Printed by walks/gen_times.py. Conditions: a valid list; how it lies. -/
import Derived.Test.YtoadkljaiegnlaaDoorTimes0
import Derived.IntWalk
namespace Go.Proofs.YtoadkljaiegnlaaDoor
open Go.RowKit
set_option maxRecDepth 100000 in
set_option maxHeartbeats 4000000 in
theorem s_times1 (g c : Nat) (rs : List RG) (w : World) (hR : RowR w g rs.length rs) (hA : areB rs = true) : Calls Tryd.prog 51 #[.slice (some ⟨g, 0, none⟩) rs.length c, .int .i64 1] w fun e w' => ∃ v, e = .returned v ∧ OwnP w' w.heap.size v (uni (tim (spn rs) rs.length)) ∧ Below w.heap.size w w' := by
  obtain ⟨hn, _⟩ := are_open hA
  have hk := tim_ok hA
  have hG := spn_get rs
  obtain ⟨S, hS⟩ : ∃ S, spn rs = S := ⟨_, rfl⟩
  rw [hS] at hk hG ⊢
  have hkl := tim_len S rs.length hn
  have MK := Lib.hid (fun (B : Nat) (v : Value) (W : World) (hV : OwnP W B v (tim S rs.length)) => s_Make W hV (by omega) (fun s hs => (hk s hs).1))
  have HR := Lib.hid hR
  have HG := Lib.hid hG
  have HT := Lib.hid (fun i j => @inn_T S i j)
  have HF := Lib.hid (fun i j (h : min (S.getD i sp0).2 (S.getD j sp0).2 < max (S.getD i sp0).1 (S.getD j sp0).1) => inn_F (S := S) (i := i) (j := j) (Int.not_le.2 h))
  have HL := Lib.hid (fun i => tim_len S i)
  have HJ := Lib.hid (fun i k => inn_len S i k)
  have HN := Lib.hid (show ∀ i, tim S (i + 1) = tim S i ++ inn S i (i + 1) from fun i => rfl)
  clear hR hk hkl hA hG hS
  obtain ⟨n, hnn⟩ : ∃ n, rs.length = n := ⟨_, rfl⟩
  rw [hnn] at HR hn MK ⊢
  clear hnn
  go_enter Tryd.func51, Tryd.ntmps51
  go_wp2_with fail
  go_loopw [5, 6] (fun o i wr => ∃ k : Nat, k ≤ n ∧ i = .int .i64 k ∧ OwnP wr w.heap.size o (tim S k) ∧ Below w.heap.size w wr) (fun _ i _ => n - (intOf i).toNat)
  case atStart => exact ⟨0, by omega, rfl, OwnP.lit0 w, below_alloc _ _⟩
  case round =>
    obtain ⟨i, hi, rfl, V, L⟩ := hrel
    by_cases hlt : i < n
    · have hil := HL.out i (by omega)
      have HNN := Lib.hid (HN.out i)
      have HB0 := Lib.hid (show tim S i ++ inn S i 0 = tim S i from by simp [inn])
      obtain ⟨B, hB⟩ : ∃ B, tim S i = B := ⟨_, rfl⟩
      rw [hB] at V hil HNN HB0
      clear hB
      go_wp2_with fail
      go_loopw [5, 7] (fun o q wr => ∃ j : Nat, j ≤ i + 1 ∧ q = .int .i64 j ∧ OwnP wr w.heap.size o (B ++ inn S i j) ∧ Below w.heap.size w wr) (fun _ q _ => i + 1 - (intOf q).toNat)
      case atStart => exact ⟨0, by omega, rfl, by rw [HB0.out]; exact V, L⟩
      case round =>
        clear V L
        obtain ⟨j, hj, rfl, V, L⟩ := hrel
        have hw := L.size
        by_cases hji : j ≤ i
        · obtain ⟨hg, hc⟩ := HR.out (by omega)
          obtain ⟨_, a1, a2⟩ := hc i hlt
          obtain ⟨_, b1, b2⟩ := hc j (by omega)
          replace a1 := (L.cell (p := ⟨g, i * 3 + 1, none⟩) hg).trans a1
          replace a2 := (L.cell (p := ⟨g, i * 3 + 2, none⟩) hg).trans a2
          replace b1 := (L.cell (p := ⟨g, j * 3 + 1, none⟩) hg).trans b1
          replace b2 := (L.cell (p := ⟨g, j * 3 + 2, none⟩) hg).trans b2
          have hgw : g < wr.heap.size := Nat.lt_of_lt_of_le hg hw
          have hjn : j < n := by omega
          have hT := HT.out i j
          have hF := HF.out i j
          have hjl := HJ.out i j
          rw [HG.out i, HG.out j] at hT hF
          obtain ⟨p, hp⟩ : ∃ p, rs.getD i rg0 = p := ⟨_, rfl⟩
          obtain ⟨q, hq⟩ : ∃ q, rs.getD j rg0 = q := ⟨_, rfl⟩
          have hpq : j = i → p = q := fun e => by rw [← hp, ← hq, e]
          rw [hp] at a1 a2 hT hF
          rw [hq] at b1 b2 hT hF
          obtain ⟨_, f, t⟩ := p
          obtain ⟨_, x, y⟩ := q
          dsimp only at a1 a2 b1 b2 hT hF
          have hmx : (if f < x then x else f) = max f x := by split <;> omega
          have hmn : (if y < t then y else t) = min t y := by split <;> omega
          obtain ⟨X, hX⟩ : ∃ X, max f x = X := ⟨_, rfl⟩
          obtain ⟨Y, hY⟩ : ∃ Y, min t y = Y := ⟨_, rfl⟩
          rw [hX] at hmx hT hF
          rw [hY] at hmn hT hF
          have HTT := Lib.hid hT
          have HFF := Lib.hid hF
          have BB := Blk.new wr 62 #[.int .i64 X, .int .i64 Y]
          have V1 := V.alloc (.cells #[.int .i64 X, .int .i64 Y] 62)
          have L1 := below_more L hw (.cells #[.int .i64 X, .int .i64 Y] 62)
          have hL1 := L1.size
          have hol : (B ++ inn S i j).length ≤ 10000 := by rw [List.length_append]; omega
          obtain ⟨D, hD⟩ : ∃ D, B ++ inn S i j = D := ⟨_, rfl⟩
          rw [hD] at V1 hol
          have HD := Lib.hid hD
          clear hc hp hq hT hF hpq V hil hjl hD
          have x0 := BB.c0
          have x1 := BB.c1
          go_wp2_with fail
          go_region
          clear a1 a2 b1 b2 hmx hmn hgw hX hY
          by_cases hm : X ≤ Y
          · as_aux_lemma =>
              have HS := Lib.hid (HTT.out hm)
              clear HTT HFF
              go_wp2_with (at_builtin; refine wpList_appPd rfl _ _ rfl _ _ _ _ _ _ rfl V1 _ (by simp) rfl (by omega) hL1 ?_; intro v2 w3 V2 hg2)
              go_roundw
              case rel => exact ⟨j + 1, by omega, by go_num, V2.to (by rw [HS.out, ← List.append_assoc, HD.out]), V1.below_grown L1 hg2 hL1⟩
              case measure => first | (simp [intOf]; done) | (simp [intOf]; omega)
          · as_aux_lemma =>
              have HS := Lib.hid (HFF.out (by omega))
              have hm' : decide (X ≤ Y) = false := by simpa using hm
              clear HTT HFF hm
              go_wp2_with fail
              go_roundw
              case rel => exact ⟨j + 1, by omega, by go_num, by rw [HS.out, HD.out]; exact V1.drew, L1.drew⟩
              case measure => first | (simp [intOf]; done) | (simp [intOf]; omega)
        · obtain rfl : j = i + 1 := by omega
          go_wp2_with fail
          go_roundw
          case rel => exact ⟨i + 1, by omega, by go_num, by rw [HNN.out]; exact V.to rfl, L⟩
          case measure => first | (simp [intOf]; done) | (simp [intOf]; omega)
    · obtain rfl : i = n := by omega
      go_wp2_with fail
      refine (MK.out _ _ _ V).mono ?_
      rintro e w2 ⟨v, rfl, ho, hb⟩
      go_wp2_with fail
      go_ret
      exact ⟨_, rfl, ho.mono L.size, below_step L hb⟩
end Go.Proofs.YtoadkljaiegnlaaDoor
