/- Texts put together: RegOnF Times0 Times1 Spns Times2 HeldP. No condition beyond those that stand in each. -/
import Derived.Test.YtmpgokijlikddaaGreatDoorRl6
import Derived.Test.YtmpgokijlikddaaGreatDoorRl7
import Derived.Test.YtmpgokijlikddaaGreatDoorRl2
import Derived.Test.YtmpgokijlikddaaGreatDoorRl3
import Derived.IntWalk
import Derived.Test.YtmpgokijlikddaaGreatDoorRl1
import Derived.Test.YtmpgokijlikddaaGreatDoorStyle
import Derived.Deep.RegionHeld3
/- ReignsOn: the program's and the reference's functions return what the plain function says; marks in a list of reigns. Conditions: lengths that a machine can hold; how the list lies. -/
namespace Go.Proofs.YtmpgokijlikddaaGreatDoor
open Go.RowKit
/-- the reigns of a day, and the code -/
def onF (rs : List RG) (m : Int) : List Int × Int := if areB rs then (if inB m 0 730499 then (onK rs m rs.length, 0) else ([], 2)) else ([], 1)
theorem i_chk1 (m : Int) (w : World) : Calls Tryz.prog 133 #[.int .i64 m] w fun e w' => e = .returned (.bool (!inB m 0 730499)) ∧ w = w' := by
  obtain ⟨b, hb⟩ : ∃ b, inB m 0 730499 = b := ⟨_, rfl⟩
  rw [hb]
  have con := fun W => toB (i_day m W) hb
  have CON := Lib.hid con; clear con hb
  go_enter Tryz.func133, Tryz.ntmps133
  go_wp2_with fail
  refine (CON.out _).mono ?_
  rintro e w1 ⟨rfl, rfl⟩
  cases b
  all_goals
    go_wp2_with fail
    go_ret
    exact ⟨rfl, rfl⟩
theorem i_idxd (g : Nat) (m : Int) (w : World) (c0 : w.cell? ⟨g, 0, none⟩ = some (.int .i64 m)) : Calls Tryz.prog 187 #[.slice (some ⟨g, 0, none⟩) 1 1, .func (.func 133) #[] #[]] w fun e w' => e = .returned (.int .i64 (if inB m 0 730499 then -1 else 0)) ∧ w = w' := by
  have con := fun W => i_chk1 m W
  obtain ⟨b, hb⟩ : ∃ b, inB m 0 730499 = b := ⟨_, rfl⟩
  rw [hb] at con ⊢
  have CON := Lib.hid con; clear con hb
  go_enter Tryz.func187, Tryz.ntmps187
  go_wp2_with fail
  cases b with
  | true =>
    go_loop [8] (fun i => ∃ k : Nat, k ≤ 1 ∧ i = .int .i64 k) (fun i => 1 - (intOf i).toNat)
    case atStart => exact ⟨0, by omega, rfl⟩
    case round =>
      obtain ⟨k, hk, rfl⟩ := hrel
      by_cases h0 : k = 0
      · subst h0
        go_wp2_with fail
        refine (CON.out _).mono ?_
        rintro e w1 ⟨rfl, rfl⟩
        go_wp2_with fail
        go_round
        case rel => exact ⟨1, by omega, by go_num⟩
        case measure => simp [intOf]
      · obtain rfl : k = 1 := by omega
        go_wp2_with fail
        go_ret
        exact ⟨rfl, rfl⟩
  | false =>
    go_loop [8] (fun i => i = .int .i64 0) (fun i => 1 - (intOf i).toNat)
    case atStart => rfl
    case round =>
      subst hrel
      go_wp2_with fail
      refine (CON.out _).mono ?_
      rintro e w1 ⟨rfl, rfl⟩
      go_wp2_with fail
      go_ret
      exact ⟨rfl, rfl⟩
theorem i_chk (g c gd : Nat) (rs : List RG) (m : Int) (w : World) (hR : RowR w g rs.length rs) (hn : rs.length ≤ 1048576) (hok : ∀ i, rgOk (rs.getD i rg0)) (hd : gd < w.heap.size) (c0 : w.cell? ⟨gd, 0, none⟩ = some (.int .i64 m)) :
    Calls Tryz.prog 66 #[.slice (some ⟨g, 0, none⟩) rs.length c, .slice (some ⟨gd, 0, none⟩) 1 1] w fun e w' => e = .returned (.int .i64 (onF rs m).2) ∧ Below w.heap.size w w' := by
  have con := i_AreReigns g c rs w hR hn hok
  have con2 := fun W h => i_idxd gd m W h
  unfold onF
  obtain ⟨n, hnn⟩ : ∃ n, rs.length = n := ⟨_, rfl⟩
  rw [hnn] at con
  cases h1 : areB rs with
  | false =>
    rw [h1] at con
    have CON := Lib.hid con
    clear con con2
    rw [hnn]
    go_enter Tryz.func66, Tryz.ntmps66
    go_wp2_with fail
    refine CON.out.mono ?_
    rintro e w1 ⟨rfl, hb⟩
    go_wp2_with fail
    go_ret
    exact ⟨rfl, hb⟩
  | true =>
    rw [h1] at con
    cases h2 : inB m 0 730499 with
    | true =>
      rw [h2] at con2
      simp only [if_true] at con2
      have CON := Lib.hid con
      have CON2 := Lib.hid con2
      clear con con2
      rw [hnn]
      go_enter Tryz.func66, Tryz.ntmps66
      go_wp2_with fail
      refine CON.out.mono ?_
      rintro e w1 ⟨rfl, hb⟩
      have d0 := (hb.cell (p := ⟨gd, 0, none⟩) hd).trans c0
      go_wp2_with (go_at_call 132; go_in)
      refine (CON2.out _ d0).mono ?_
      rintro e w2 ⟨rfl, rfl⟩
      go_wp2_with fail
      go_ret
      exact ⟨rfl, hb⟩
    | false =>
      rw [h2] at con2
      simp only [Bool.false_eq_true, if_false] at con2
      have CON := Lib.hid con
      have CON2 := Lib.hid con2
      clear con con2
      rw [hnn]
      go_enter Tryz.func66, Tryz.ntmps66
      go_wp2_with fail
      refine CON.out.mono ?_
      rintro e w1 ⟨rfl, hb⟩
      have d0 := (hb.cell (p := ⟨gd, 0, none⟩) hd).trans c0
      go_wp2_with (go_at_call 132; go_in)
      refine (CON2.out _ d0).mono ?_
      rintro e w2 ⟨rfl, rfl⟩
      go_wp2_with fail
      go_ret
      exact ⟨rfl, hb⟩
set_option maxRecDepth 100000 in
theorem i_ReignsOn (g c : Nat) (rs : List RG) (m : Int) (w : World) (hR : RowR w g rs.length rs) (hn : rs.length ≤ 1048576) (hok : ∀ i, rgOk (rs.getD i rg0)) (hg : g < w.heap.size) :
    Calls Tryz.prog 14 #[.slice (some ⟨g, 0, none⟩) rs.length c, .int .i64 m] w fun e w' => ∃ v, e = .returned (.tuple #[v, .int .i64 (onF rs m).2]) ∧ OwnI w' w.heap.size v (onF rs m).1 ∧ Below w.heap.size w w' := by
  have con := fun gd W h1 h2 h3 => i_chk g c gd rs m W h1 hn hok h2 h3
  have con2 := fun W h => i_on7 g c rs m W h hn
  have HF := Lib.hid (show onF rs m = if areB rs then (if inB m 0 730499 then (onK rs m rs.length, 0) else ([], 2)) else ([], 1) from rfl)
  have HR := Lib.hid hR; clear hR
  obtain ⟨n, hnn⟩ : ∃ n, rs.length = n := ⟨_, rfl⟩
  rw [hnn] at con con2 HR HF hn ⊢
  clear hnn
  have hcase : (areB rs = true ∧ inB m 0 730499 = true) ∨ (∃ k, onF rs m = ([], k) ∧ (k = 1 ∨ k = 2)) := by
    rw [HF.out]
    cases areB rs
    · exact .inr ⟨1, rfl, .inl rfl⟩
    · cases inB m 0 730499
      · exact .inr ⟨2, rfl, .inr rfl⟩
      · exact .inl ⟨rfl, rfl⟩
  rcases hcase with ⟨h1, h2⟩ | ⟨k, hk, hk'⟩
  · have hF : onF rs m = (onK rs m n, 0) := by rw [HF.out, h1, h2]; rfl
    rw [hF] at con ⊢
    have CON := Lib.hid con
    have CON2 := Lib.hid con2
    obtain ⟨l, hl⟩ : ∃ l, onK rs m n = l := ⟨_, rfl⟩
    rw [hl] at CON2 ⊢
    clear con con2 h1 h2 hF HF hl
    have hA := (below_alloc w (.cells #[.int .i64 m] 2))
    have hR1 := HR.out.below hA hg
    go_enter Tryz.func14, Tryz.ntmps14
    go_wp2_with fail
    refine (CON.out _ _ hR1 (by simp) (Blk.new w _ _).c0).mono ?_
    rintro e w1 ⟨rfl, hb⟩
    have L1 := hA.trans (hb.mono (by simp))
    have hR2 := hR1.below hb (by simp; omega)
    go_wp2_with fail
    refine (CON2.out _ hR2).mono ?_
    rintro e w2 ⟨v, rfl, ho, hb2⟩
    go_wp2_with fail
    go_ret2
    exact ⟨_, rfl, ho.mono L1.size, below_step L1 hb2⟩
  · rw [hk] at con ⊢
    have CON := Lib.hid con
    have hA := (below_alloc w (.cells #[.int .i64 m] 2))
    have hR1 := HR.out.below hA hg
    clear con con2 hk HF
    rcases hk' with rfl | rfl
    all_goals
      go_enter Tryz.func14, Tryz.ntmps14
      go_wp2_with fail
      refine (CON.out _ _ hR1 (by simp) (Blk.new w _ _).c0).mono ?_
      rintro e w1 ⟨rfl, hb⟩
      have L1 := hA.trans (hb.mono (by simp))
      go_wp2_with fail
      go_ret2
      exact ⟨_, rfl, OwnI.nil _ _, L1⟩
set_option maxRecDepth 100000 in
theorem s_ReignsOn (g c : Nat) (rs : List RG) (m : Int) (w : World) (hR : RowR w g rs.length rs) (hn : rs.length ≤ 1048576) (hok : ∀ i, rgOk (rs.getD i rg0)) (hg : g < w.heap.size) :
    Calls Tryz.prog 15 #[.slice (some ⟨g, 0, none⟩) rs.length c, .int .i64 m] w fun e w' => ∃ v, e = .returned (.tuple #[v, .int .i64 (onF rs m).2]) ∧ OwnI w' w.heap.size v (onF rs m).1 ∧ Below w.heap.size w w' := by
  have con := s_AreReigns g c rs w hR hn hok
  have con2 := fun W h => s_on7 g c rs m W h hn
  have HF := Lib.hid (show onF rs m = if areB rs then (if inB m 0 730499 then (onK rs m rs.length, 0) else ([], 2)) else ([], 1) from rfl)
  have HR := Lib.hid hR; clear hR
  obtain ⟨n, hnn⟩ : ∃ n, rs.length = n := ⟨_, rfl⟩
  rw [hnn] at con con2 HR HF hn ⊢
  clear hnn
  cases h1 : areB rs with
  | false =>
    have hF : onF rs m = ([], 1) := by rw [HF.out, h1]; rfl
    rw [hF]
    rw [h1] at con
    have CON := Lib.hid con
    clear con con2 hF HF
    go_enter Tryz.func15, Tryz.ntmps15
    go_wp2_with fail
    refine CON.out.mono ?_
    rintro e w1 ⟨rfl, hb⟩
    go_wp2_with fail
    go_ret2
    exact ⟨_, rfl, OwnI.nil _ _, hb⟩
  | true =>
    rw [h1] at con
    cases h2 : inB m 0 730499 with
    | false =>
      have hF : onF rs m = ([], 2) := by rw [HF.out, h1, h2]; rfl
      rw [hF]
      have CON := Lib.hid con
      clear con con2 hF HF
      go_enter Tryz.func15, Tryz.ntmps15
      go_wp2_with fail
      refine CON.out.mono ?_
      rintro e w1 ⟨rfl, hb⟩
      go_wp2_with fail
      refine (toB (s_day _ _) h2).mono ?_
      rintro e w2 ⟨rfl, rfl⟩
      go_wp2_with fail
      go_ret2
      exact ⟨_, rfl, OwnI.nil _ _, hb⟩
    | true =>
      have hF : onF rs m = (onK rs m n, 0) := by rw [HF.out, h1, h2]; rfl
      rw [hF]
      have CON := Lib.hid con
      have CON2 := Lib.hid con2
      obtain ⟨l, hl⟩ : ∃ l, onK rs m n = l := ⟨_, rfl⟩
      rw [hl] at CON2 ⊢
      clear con con2 hF HF hl
      go_enter Tryz.func15, Tryz.ntmps15
      go_wp2_with fail
      refine CON.out.mono ?_
      rintro e w1 ⟨rfl, hb⟩
      have hR2 := HR.out.below hb hg
      go_wp2_with fail
      refine (toB (s_day _ _) h2).mono ?_
      rintro e w2 ⟨rfl, rfl⟩
      go_wp2_with fail
      refine (CON2.out _ hR2).mono ?_
      rintro e w2 ⟨v, rfl, ho, hb2⟩
      go_wp2_with fail
      go_ret2
      exact ⟨_, rfl, ho.mono hb.size, below_step hb hb2⟩
end Go.Proofs.YtmpgokijlikddaaGreatDoor
/- The days that are in at least one, or two, of a list of reigns: the reference's function. Printed by walks/gen_times.py. Conditions: a valid list; how it lies. -/
namespace Go.Proofs.YtmpgokijlikddaaGreatDoor
open Go.RowKit
theorem inn_T {S : List Sp} {i j : Nat} (h : max (S.getD i sp0).1 (S.getD j sp0).1 ≤ min (S.getD i sp0).2 (S.getD j sp0).2) : inn S i (j + 1) = inn S i j ++ [(max (S.getD i sp0).1 (S.getD j sp0).1, min (S.getD i sp0).2 (S.getD j sp0).2)] := by rw [inn, mt_T h]
theorem inn_F {S : List Sp} {i j : Nat} (h : ¬ max (S.getD i sp0).1 (S.getD j sp0).1 ≤ min (S.getD i sp0).2 (S.getD j sp0).2) : inn S i (j + 1) = inn S i j := by rw [inn, mt_F h, List.append_nil]
end Go.Proofs.YtmpgokijlikddaaGreatDoor
/- The days that are in at least one of a list of reigns: the reference's function. Printed by walks/gen_times.py. Conditions: a valid list; how it lies. -/
namespace Go.Proofs.YtmpgokijlikddaaGreatDoor
open Go.RowKit
set_option maxRecDepth 100000 in
set_option maxHeartbeats 4000000 in
theorem s_times1 (g c : Nat) (rs : List RG) (w : World) (hR : RowR w g rs.length rs) (hA : areB rs = true) : Calls Tryz.prog 74 #[.slice (some ⟨g, 0, none⟩) rs.length c, .int .i64 1] w fun e w' => ∃ v, e = .returned v ∧ OwnP w' w.heap.size v (uni (tim (spn rs) rs.length)) ∧ Below w.heap.size w w' := by
  obtain ⟨hn, _⟩ := are_open hA
  have hk := tim_ok hA
  have hG := spn_get rs
  obtain ⟨S, hS⟩ : ∃ S, spn rs = S := ⟨_, rfl⟩
  rw [hS] at hk hG ⊢
  have hkl := tim_len S rs.length hn
  have MK := Lib.hid (fun (B : Nat) (v : Value) (W : World) (hV : OwnP W B v (tim S rs.length)) => s_Make W hV (by omega) (fun s hs => (hk s hs).1))
  have HR := Lib.hid hR
  have HG := Lib.hid hG
  have HT := Lib.hid (fun i j => @inn_T S i j)
  have HF := Lib.hid (fun i j (h : min (S.getD i sp0).2 (S.getD j sp0).2 < max (S.getD i sp0).1 (S.getD j sp0).1) => inn_F (S := S) (i := i) (j := j) (Int.not_le.2 h))
  have HL := Lib.hid (fun i => tim_len S i)
  have HJ := Lib.hid (fun i k => inn_len S i k)
  have HN := Lib.hid (show ∀ i, tim S (i + 1) = tim S i ++ inn S i (i + 1) from fun i => rfl)
  clear hR hk hkl hA hG hS
  obtain ⟨n, hnn⟩ : ∃ n, rs.length = n := ⟨_, rfl⟩
  rw [hnn] at HR hn MK ⊢
  clear hnn
  go_enter Tryz.func74, Tryz.ntmps74
  go_wp2_with fail
  go_loopw [5, 6] (fun o i wr => ∃ k : Nat, k ≤ n ∧ i = .int .i64 k ∧ OwnP wr w.heap.size o (tim S k) ∧ Below w.heap.size w wr) (fun _ i _ => n - (intOf i).toNat)
  case atStart => exact ⟨0, by omega, rfl, OwnP.lit0 w, below_alloc _ _⟩
  case round =>
    obtain ⟨i, hi, rfl, V, L⟩ := hrel
    by_cases hlt : i < n
    · have hil := HL.out i (by omega)
      have HNN := Lib.hid (HN.out i)
      have HB0 := Lib.hid (show tim S i ++ inn S i 0 = tim S i from by simp [inn])
      obtain ⟨B, hB⟩ : ∃ B, tim S i = B := ⟨_, rfl⟩
      rw [hB] at V hil HNN HB0
      clear hB
      go_wp2_with fail
      go_loopw [5, 7] (fun o q wr => ∃ j : Nat, j ≤ i + 1 ∧ q = .int .i64 j ∧ OwnP wr w.heap.size o (B ++ inn S i j) ∧ Below w.heap.size w wr) (fun _ q _ => i + 1 - (intOf q).toNat)
      case atStart => exact ⟨0, by omega, rfl, by rw [HB0.out]; exact V, L⟩
      case round =>
        clear V L
        obtain ⟨j, hj, rfl, V, L⟩ := hrel
        have hw := L.size
        by_cases hji : j ≤ i
        · obtain ⟨hg, hc⟩ := HR.out (by omega)
          obtain ⟨_, a1, a2⟩ := hc i hlt
          obtain ⟨_, b1, b2⟩ := hc j (by omega)
          replace a1 := (L.cell (p := ⟨g, i * 3 + 1, none⟩) hg).trans a1
          replace a2 := (L.cell (p := ⟨g, i * 3 + 2, none⟩) hg).trans a2
          replace b1 := (L.cell (p := ⟨g, j * 3 + 1, none⟩) hg).trans b1
          replace b2 := (L.cell (p := ⟨g, j * 3 + 2, none⟩) hg).trans b2
          have hgw : g < wr.heap.size := Nat.lt_of_lt_of_le hg hw
          have hjn : j < n := by omega
          have hT := HT.out i j
          have hF := HF.out i j
          have hjl := HJ.out i j
          rw [HG.out i, HG.out j] at hT hF
          obtain ⟨p, hp⟩ : ∃ p, rs.getD i rg0 = p := ⟨_, rfl⟩
          obtain ⟨q, hq⟩ : ∃ q, rs.getD j rg0 = q := ⟨_, rfl⟩
          have hpq : j = i → p = q := fun e => by rw [← hp, ← hq, e]
          rw [hp] at a1 a2 hT hF
          rw [hq] at b1 b2 hT hF
          obtain ⟨_, f, t⟩ := p
          obtain ⟨_, x, y⟩ := q
          dsimp only at a1 a2 b1 b2 hT hF
          have hmx : (if f < x then x else f) = max f x := by split <;> omega
          have hmn : (if y < t then y else t) = min t y := by split <;> omega
          obtain ⟨X, hX⟩ : ∃ X, max f x = X := ⟨_, rfl⟩
          obtain ⟨Y, hY⟩ : ∃ Y, min t y = Y := ⟨_, rfl⟩
          rw [hX] at hmx hT hF
          rw [hY] at hmn hT hF
          have HTT := Lib.hid hT
          have HFF := Lib.hid hF
          have BB := Blk.new wr 47 #[.int .i64 X, .int .i64 Y]
          have V1 := V.alloc (.cells #[.int .i64 X, .int .i64 Y] 47)
          have L1 := below_more L hw (.cells #[.int .i64 X, .int .i64 Y] 47)
          have hL1 := L1.size
          have hol : (B ++ inn S i j).length ≤ 10000 := by rw [List.length_append]; omega
          obtain ⟨D, hD⟩ : ∃ D, B ++ inn S i j = D := ⟨_, rfl⟩
          rw [hD] at V1 hol
          have HD := Lib.hid hD
          clear hc hp hq hT hF hpq V hil hjl hD
          have x0 := BB.c0
          have x1 := BB.c1
          go_wp2_with fail
          go_region
          clear a1 a2 b1 b2 hmx hmn hgw hX hY
          by_cases hm : X ≤ Y
          · as_aux_lemma =>
              have HS := Lib.hid (HTT.out hm)
              clear HTT HFF
              go_wp2_with (at_builtin; refine wpList_appPd rfl _ _ rfl _ _ _ _ _ _ rfl V1 _ (by simp) rfl (by omega) hL1 ?_; intro v2 w3 V2 hg2)
              go_roundw
              case rel => exact ⟨j + 1, by omega, by go_num, V2.to (by rw [HS.out, ← List.append_assoc, HD.out]), V1.below_grown L1 hg2 hL1⟩
              case measure => first | (simp [intOf]; done) | (simp [intOf]; omega)
          · as_aux_lemma =>
              have HS := Lib.hid (HFF.out (by omega))
              have hm' : decide (X ≤ Y) = false := by simpa using hm
              clear HTT HFF hm
              go_wp2_with fail
              go_roundw
              case rel => exact ⟨j + 1, by omega, by go_num, by rw [HS.out, HD.out]; exact V1.drew, L1.drew⟩
              case measure => first | (simp [intOf]; done) | (simp [intOf]; omega)
        · obtain rfl : j = i + 1 := by omega
          go_wp2_with fail
          go_roundw
          case rel => exact ⟨i + 1, by omega, by go_num, by rw [HNN.out]; exact V.to rfl, L⟩
          case measure => first | (simp [intOf]; done) | (simp [intOf]; omega)
    · obtain rfl : i = n := by omega
      go_wp2_with fail
      refine (MK.out _ _ _ V).mono ?_
      rintro e w2 ⟨v, rfl, ho, hb⟩
      go_wp2_with fail
      go_ret
      exact ⟨_, rfl, ho.mono L.size, below_step L hb⟩
end Go.Proofs.YtmpgokijlikddaaGreatDoor
/- The spans of a list of reigns, by the program. Conditions: lengths that a machine can hold; how the list lies. -/
namespace Go.Proofs.YtmpgokijlikddaaGreatDoor
open Go.RowKit
set_option maxRecDepth 100000 in
set_option maxHeartbeats 1000000 in
theorem i_spns (g c : Nat) (rs : List RG) (w : World) (hR : RowR w g rs.length rs) (hn : rs.length ≤ 1000) : Calls Tryz.prog 70 #[.slice (some ⟨g, 0, none⟩) rs.length c] w fun e w' => ∃ v, e = .returned v ∧ OwnP w' w.heap.size v (spn rs) ∧ Below w.heap.size w w' := by
  have HR := Lib.hid hR
  have HS := Lib.hid (fun k h => spn_snoc rs k h)
  have HE := Lib.hid (show (spn rs).take rs.length = spn rs from by rw [← spn_len rs, List.take_length])
  have HL := Lib.hid (fun k => (show ((spn rs).take k).length ≤ k from by rw [List.length_take]; omega))
  clear hR
  obtain ⟨n, hnn⟩ : ∃ n, rs.length = n := ⟨_, rfl⟩
  rw [hnn] at HR hn HS HE ⊢
  clear hnn
  go_enter Tryz.func70, Tryz.ntmps70
  go_wp2_with fail
  go_loopw [3, 9] (fun o i wr => ∃ k : Nat, k ≤ n ∧ i = .int .i64 k ∧ OwnP wr w.heap.size o ((spn rs).take k) ∧ Below w.heap.size w wr) (fun _ i _ => n - (intOf i).toNat)
  case atStart => exact ⟨0, by omega, rfl, OwnP.lit0 w, below_alloc _ _⟩
  case round =>
    obtain ⟨k, hk, rfl, V, L⟩ := hrel
    have hw := L.size
    by_cases hlt : k < n
    · obtain ⟨hg, hc⟩ := HR.out (by omega)
      obtain ⟨h0, h1, h2⟩ := hc k hlt
      have c0 := (L.cell (p := ⟨g, k * 3, none⟩) hg).trans h0
      have c1 := (L.cell (p := ⟨g, k * 3 + 1, none⟩) hg).trans h1
      have c2 := (L.cell (p := ⟨g, k * 3 + 2, none⟩) hg).trans h2
      have hgw : g < wr.heap.size := Nat.lt_of_lt_of_le hg hw
      have hnext := HS.out k hlt
      have hlen := HL.out k
      obtain ⟨p, hp⟩ : ∃ p, rs.getD k rg0 = p := ⟨_, rfl⟩
      rw [hp] at c0 c1 c2 hnext
      obtain ⟨x, f, t⟩ := p
      have HN := Lib.hid hnext
      have V1 := V.alloc (.cells #[.string ⟨x.toArray⟩, .int .i64 f, .int .i64 t] 90)
      have L1 := below_more L hw (.cells #[.string ⟨x.toArray⟩, .int .i64 f, .int .i64 t] 90)
      have hL1 := L1.size
      clear hc h0 h1 h2 hp hnext
      dsimp only at c0 c1 c2
      obtain ⟨D, hD⟩ : ∃ D, (spn rs).take k = D := ⟨_, rfl⟩
      rw [hD] at V1 hlen HN
      clear V hD
      go_wp2_with (at_builtin; refine wpList_appP rfl _ _ rfl _ _ _ _ _ _ rfl V1 _ (by simp) rfl (by omega) hL1 ?_; intro v2 w3 V2 hg2)
      go_roundw
      case rel => exact ⟨k + 1, by omega, by go_num, by rw [HN.out]; exact V2, V1.below_grown L1 hg2 hL1⟩
      case measure => simp [intOf]; omega
    · obtain rfl : k = n := by omega
      rw [HE.out] at V
      go_wp2_with fail
      go_ret
      exact ⟨_, rfl, V, L⟩
end Go.Proofs.YtmpgokijlikddaaGreatDoor
/- The days that are in at least two of a list of reigns: the reference's function. Printed by walks/gen_times.py. Conditions: a valid list; how it lies. -/
namespace Go.Proofs.YtmpgokijlikddaaGreatDoor
open Go.RowKit
set_option maxRecDepth 100000 in
set_option maxHeartbeats 4000000 in
theorem s_times2 (g c : Nat) (rs : List RG) (w : World) (hR : RowR w g rs.length rs) (hA : areB rs = true) : Calls Tryz.prog 74 #[.slice (some ⟨g, 0, none⟩) rs.length c, .int .i64 2] w fun e w' => ∃ v, e = .returned v ∧ OwnP w' w.heap.size v (uni (dis (spn rs) rs.length)) ∧ Below w.heap.size w w' := by
  obtain ⟨hn, _⟩ := are_open hA
  have hk := dis_ok hA
  have hG := spn_get rs
  obtain ⟨S, hS⟩ : ∃ S, spn rs = S := ⟨_, rfl⟩
  rw [hS] at hk hG ⊢
  have hkl := dis_len S rs.length hn
  have MK := Lib.hid (fun (B : Nat) (v : Value) (W : World) (hV : OwnP W B v (dis S rs.length)) => s_Make W hV (by omega) (fun s hs => (hk s hs).1))
  have HR := Lib.hid hR
  have HG := Lib.hid hG
  have HT := Lib.hid (fun i j => @inn_T S i j)
  have HF := Lib.hid (fun i j (h : min (S.getD i sp0).2 (S.getD j sp0).2 < max (S.getD i sp0).1 (S.getD j sp0).1) => inn_F (S := S) (i := i) (j := j) (Int.not_le.2 h))
  have HL := Lib.hid (fun i => dis_len S i)
  have HJ := Lib.hid (fun i k => inn_len S i k)
  have HN := Lib.hid (show ∀ i, dis S (i + 1) = dis S i ++ inn S i i from fun i => rfl)
  clear hR hk hkl hA hG hS
  obtain ⟨n, hnn⟩ : ∃ n, rs.length = n := ⟨_, rfl⟩
  rw [hnn] at HR hn MK ⊢
  clear hnn
  go_enter Tryz.func74, Tryz.ntmps74
  go_wp2_with fail
  go_loopw [5, 6] (fun o i wr => ∃ k : Nat, k ≤ n ∧ i = .int .i64 k ∧ OwnP wr w.heap.size o (dis S k) ∧ Below w.heap.size w wr) (fun _ i _ => n - (intOf i).toNat)
  case atStart => exact ⟨0, by omega, rfl, OwnP.lit0 w, below_alloc _ _⟩
  case round =>
    obtain ⟨i, hi, rfl, V, L⟩ := hrel
    by_cases hlt : i < n
    · have hil := HL.out i (by omega)
      have HNN := Lib.hid (HN.out i)
      have HB0 := Lib.hid (show dis S i ++ inn S i (min 0 i) = dis S i from by simp [inn])
      obtain ⟨B, hB⟩ : ∃ B, dis S i = B := ⟨_, rfl⟩
      rw [hB] at V hil HNN HB0
      clear hB
      go_wp2_with fail
      go_loopw [5, 7] (fun o q wr => ∃ j : Nat, j ≤ i + 1 ∧ q = .int .i64 j ∧ OwnP wr w.heap.size o (B ++ inn S i (min j i)) ∧ Below w.heap.size w wr) (fun _ q _ => i + 1 - (intOf q).toNat)
      case atStart => exact ⟨0, by omega, rfl, by rw [HB0.out]; exact V, L⟩
      case round =>
        clear V L
        obtain ⟨j, hj, rfl, V, L⟩ := hrel
        have hw := L.size
        by_cases hji : j ≤ i
        · obtain ⟨hg, hc⟩ := HR.out (by omega)
          obtain ⟨_, a1, a2⟩ := hc i hlt
          obtain ⟨_, b1, b2⟩ := hc j (by omega)
          replace a1 := (L.cell (p := ⟨g, i * 3 + 1, none⟩) hg).trans a1
          replace a2 := (L.cell (p := ⟨g, i * 3 + 2, none⟩) hg).trans a2
          replace b1 := (L.cell (p := ⟨g, j * 3 + 1, none⟩) hg).trans b1
          replace b2 := (L.cell (p := ⟨g, j * 3 + 2, none⟩) hg).trans b2
          have hgw : g < wr.heap.size := Nat.lt_of_lt_of_le hg hw
          have hjn : j < n := by omega
          have hT := HT.out i j
          have hF := HF.out i j
          have hjl := HJ.out i (min j i)
          rw [HG.out i, HG.out j] at hT hF
          obtain ⟨p, hp⟩ : ∃ p, rs.getD i rg0 = p := ⟨_, rfl⟩
          obtain ⟨q, hq⟩ : ∃ q, rs.getD j rg0 = q := ⟨_, rfl⟩
          have hpq : j = i → p = q := fun e => by rw [← hp, ← hq, e]
          rw [hp] at a1 a2 hT hF
          rw [hq] at b1 b2 hT hF
          obtain ⟨_, f, t⟩ := p
          obtain ⟨_, x, y⟩ := q
          dsimp only at a1 a2 b1 b2 hT hF
          have hmx : (if f < x then x else f) = max f x := by split <;> omega
          have hmn : (if y < t then y else t) = min t y := by split <;> omega
          obtain ⟨X, hX⟩ : ∃ X, max f x = X := ⟨_, rfl⟩
          obtain ⟨Y, hY⟩ : ∃ Y, min t y = Y := ⟨_, rfl⟩
          rw [hX] at hmx hT hF
          rw [hY] at hmn hT hF
          have HTT := Lib.hid hT
          have HFF := Lib.hid hF
          have BB := Blk.new wr 47 #[.int .i64 X, .int .i64 Y]
          have V1 := V.alloc (.cells #[.int .i64 X, .int .i64 Y] 47)
          have L1 := below_more L hw (.cells #[.int .i64 X, .int .i64 Y] 47)
          have hL1 := L1.size
          have hol : (B ++ inn S i (min j i)).length ≤ 10000 := by rw [List.length_append]; omega
          obtain ⟨D, hD⟩ : ∃ D, B ++ inn S i (min j i) = D := ⟨_, rfl⟩
          rw [hD] at V1 hol
          have HD := Lib.hid hD
          clear hc hp hq hT hF hpq V hil hjl hD
          have x0 := BB.c0
          have x1 := BB.c1
          go_wp2_with fail
          go_region
          clear a1 a2 b1 b2 hmx hmn hgw hX hY
          by_cases hm : X ≤ Y
          · have HS := Lib.hid (HTT.out hm)
            clear HTT HFF
            by_cases hji2 : j < i
            · as_aux_lemma =>
                have hij : ¬ (i : Int) = (j : Int) := by omega
                have e1 : min (j + 1) i = j + 1 := by omega
                have e2 : min j i = j := by omega
                rw [e2] at HD
                go_wp2_with (at_builtin; refine wpList_appPd rfl _ _ rfl _ _ _ _ _ _ rfl V1 _ (by simp) rfl (by omega) hL1 ?_; intro v2 w3 V2 hg2)
                go_roundw
                case rel => exact ⟨j + 1, by omega, by go_num, V2.to (by rw [e1, HS.out, ← List.append_assoc, HD.out]), V1.below_grown L1 hg2 hL1⟩
                case measure => first | (simp [intOf]; done) | (simp [intOf]; omega)
            · as_aux_lemma =>
                obtain rfl : j = i := by omega
                have e1 : min (j + 1) j = j := by omega
                have e2 : min j j = j := by omega
                rw [e2] at HD
                go_wp2_with fail
                go_roundw
                case rel => exact ⟨j + 1, by omega, by go_num, by rw [e1, HD.out]; exact V1.drew, L1.drew⟩
                case measure => first | (simp [intOf]; done) | (simp [intOf]; omega)
          · as_aux_lemma =>
              have HS := Lib.hid (HFF.out (by omega))
              have hm' : decide (X ≤ Y) = false := by simpa using hm
              clear HTT HFF hm
              go_wp2_with fail
              go_roundw
              case rel => exact ⟨j + 1, by omega, by go_num, by rw [show inn S i (min (j + 1) i) = inn S i (min j i) from by (by_cases h : j < i; (rw [show min (j + 1) i = j + 1 from by omega, show min j i = j from by omega]; exact HS.out); rw [show min (j + 1) i = min j i from by omega]), HD.out]; exact V1.drew, L1.drew⟩
              case measure => first | (simp [intOf]; done) | (simp [intOf]; omega)
        · obtain rfl : j = i + 1 := by omega
          go_wp2_with fail
          go_roundw
          case rel => exact ⟨i + 1, by omega, by go_num, by rw [HNN.out]; exact V.to (by rw [show min (i + 1) i = i from by omega]), L⟩
          case measure => first | (simp [intOf]; done) | (simp [intOf]; omega)
    · obtain rfl : i = n := by omega
      go_wp2_with fail
      refine (MK.out _ _ _ V).mono ?_
      rintro e w2 ⟨v, rfl, ho, hb⟩
      go_wp2_with fail
      go_ret
      exact ⟨_, rfl, ho.mono L.size, below_step L hb⟩
end Go.Proofs.YtmpgokijlikddaaGreatDoor
/- Lists of spans told equal, marked and held. Conditions: how the slices lie; not too many spans. -/
namespace Go.Proofs.YtmpgokijlikddaaGreatDoor
open Go.RowKit
theorem below_undrewP {a w : World} (h : Below a.drew.heap.size a.drew w) : Below a.heap.size a w := ⟨h.os, h.tape, h.output, h.size, h.block⟩
set_option maxRecDepth 100000 in
set_option maxHeartbeats 1000000 in
theorem likeP_same {b1 b2 : Nat} {v1 v2 : Value} {l : List Sp} (w : World) (h1 : OwnP w b1 v1 l) (h2 : OwnP w b2 v2 l) :
    Calls Tryz.prog 21 #[v1, v2] w fun e w' => e = .returned (.bool true) ∧ Below w.heap.size w w' := by
  obtain ⟨hl, A1, c1, rfl, p1⟩ := h1.opened
  obtain ⟨_, A2, c2, rfl, p2⟩ := h2.opened
  clear h1 h2
  obtain ⟨n, hn⟩ : ∃ n, l.length = n := ⟨_, rfl⟩
  rw [hn] at p1 p2 hl ⊢
  clear hn
  have P1 := Lib.hid p1; clear p1
  have P2 := Lib.hid p2; clear p2
  go_enter Tryz.func21, Tryz.ntmps21
  go_wp2_with fail
  go_loopw [5] (fun i wr => ∃ k : Nat, k ≤ n ∧ i = .int .i64 k ∧ ∃ q, wr = w.drewN q) (fun i _ => n - (intOf i).toNat)
  case atStart => exact ⟨0, by omega, rfl, 0, rfl⟩
  case round =>
    obtain ⟨k, hk, rfl, q, rfl⟩ := hrel
    by_cases hlt : k < n
    · obtain ⟨g1, rfl, _, hg1, hc1, _⟩ := P1.out (by omega)
      obtain ⟨g2, rfl, _, hg2, hc2, _⟩ := P2.out (by omega)
      obtain ⟨x0, x1⟩ := hc1 k hlt
      obtain ⟨y0, y1⟩ := hc2 k hlt
      clear hc1 hc2
      obtain ⟨s, hs⟩ : ∃ s, l.getD k sp0 = s := ⟨_, rfl⟩
      rw [hs] at x0 x1 y0 y1
      clear hs
      obtain ⟨x, y⟩ := s
      dsimp only at x0 x1 y0 y1
      go_wp2_with fail
      go_quiet (fail)
      go_wp2_with fail
      go_roundw
      case rel => exact ⟨k + 1, by omega, by go_num, _, rfl⟩
      case measure => simp [intOf]; omega
    · go_wp2_with fail
      go_ret
      exact ⟨rfl, below_drew _ _⟩
/-- the marks (k, k + 1), (k + 2, k + 3), .. -/
def marksP (k : Int) : Nat → List Sp
  | 0 => []
  | n + 1 => (k, k + 1) :: marksP (k + 2) n
theorem marksP_len (n : Nat) : ∀ k : Int, (marksP k n).length = n := by
  induction n with
  | zero => intro k; rfl
  | succ n ih => intro k; simp [marksP, ih]
theorem marksP_get (n : Nat) : ∀ (k : Int) (j : Nat), j < n → (marksP k n).getD j sp0 = (k + 2 * j, k + 2 * j + 1) := by
  induction n with
  | zero => intro k j h; omega
  | succ n ih =>
    intro k j h
    cases j with
    | zero => simp [marksP]
    | succ j =>
      have := ih (k + 2) j (by omega)
      simp only [marksP, List.getD_cons_succ, this]
      congr 1 <;> omega
def mixP (l : List Sp) (k : Int) (j : Nat) : List Sp := marksP k j ++ l.drop j
theorem mixP_len (l : List Sp) (k : Int) (j : Nat) (h : j ≤ l.length) : (mixP l k j).length = l.length := by
  unfold mixP; rw [List.length_append, marksP_len, List.length_drop]; omega
theorem marksP_snoc (n : Nat) : ∀ k : Int, marksP k (n + 1) = marksP k n ++ [(k + 2 * n, k + 2 * n + 1)] := by
  induction n with
  | zero => intro k; simp [marksP]
  | succ n ih =>
    intro k
    have := ih (k + 2)
    rw [marksP, this, marksP, List.cons_append]
    have e : k + 2 + 2 * (n : Int) = k + 2 * ((n + 1 : Nat) : Int) := by omega
    rw [e]
theorem mixP_set (l : List Sp) (k : Int) (j : Nat) (h : j < l.length) : (mixP l k j).set j (k + 2 * j, k + 2 * j + 1) = mixP l k (j + 1) := by
  unfold mixP
  rw [List.set_append_right _ _ (by rw [marksP_len]; omega), marksP_len, Nat.sub_self, marksP_snoc, List.append_assoc, List.drop_eq_getElem_cons h]
  rfl
theorem mixP_0 (l : List Sp) (k : Int) : mixP l k 0 = l := by simp [mixP, marksP]
theorem mixP_all (l : List Sp) (k : Int) : mixP l k l.length = marksP k l.length := by simp [mixP]
theorem OwnP.row0 {w : World} {b n c : Nat} {A : Option Addr} {l : List Sp} (h : OwnP w b (.slice A n c) l) : n = l.length ∧ (l.length = 0 ∨ ∃ g, A = some ⟨g, 0, none⟩) := by
  obtain ⟨e, p⟩ := h.at_
  refine ⟨e, ?_⟩
  rcases Nat.eq_zero_or_pos l.length with h0 | h0
  · exact .inl h0
  · obtain ⟨g, hg, _⟩ := p h0
    exact .inr ⟨g, hg⟩
theorem below_grownP {a w w' : World} {b : Nat} {v : Value} {xs : List Sp} (h : Below a.heap.size a w) (hg : w.grownBy w' v.ownBlock) (hv : OwnP w b v xs) (hb : a.heap.size ≤ b) : Below a.heap.size a w' :=
  h.grown hg h.size fun k hk => Nat.le_trans hb (hv.lt k hk).1
end Go.Proofs.YtmpgokijlikddaaGreatDoor
