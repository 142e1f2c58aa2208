/- OrdinalText and ReadOrdinal: the program's and the reference's functions return what the plain functions say. Condition, where the program splits a text: that the library's variable MaxLen holds an int. -/
import Derived.Test.YtmpgokijlikddaaGreatDoorOrd
namespace Go.Proofs.YtmpgokijlikddaaGreatDoor
open Go.RowKit
theorem ordT_in (n : Int) (h : inB n 1 31 = true) : ordT n = ordL.getD (n.toNat - 1) [] := by
  unfold ordT nameAt; rw [if_pos h]; simp
theorem ordT_out (n : Int) (h : inB n 1 31 = false) : ordT n = [] := by
  unfold ordT nameAt; rw [if_neg (by simp [h])]
theorem ord_20 : ∀ k : Nat, k < 20 → ord20.getD k [] = ordL.getD k [] := by decide +kernel
theorem ord20_len : ord20.length = 20 := rfl
theorem i_OrdinalText (n : Int) (w : World) (hm : MaxOk w) : Calls Tryz.prog 52 #[.int .i64 n] w fun e w' => e = .returned (.string ⟨(ordT n).toArray⟩) ∧ Below w.heap.size w w' := by
  by_cases hn : inB n 1 31 = true
  · obtain ⟨h0, h1⟩ := inB_iff.1 hn
    have HF := Lib.hid (ordT_in n hn)
    have con := i_ordinals w hm
    have CON := Lib.hid con; clear con
    go_enter Tryz.func52, Tryz.ntmps52
    go_wp2_with (go_at_call 123; refine (toB (i_in _ _ _ _) (by assumption)).mono ?_; rintro e w' ⟨rfl, rfl⟩)
    refine CON.out.mono ?_
    rintro e w1 ⟨v, rfl, ho, hb⟩
    have hl : ordL.length = 31 := rfl
    obtain ⟨g, c, rfl, _, _, _, _, hc, _⟩ := ho.openedC (by rw [hl]; omega)
    have hcell := hc (n.toNat - 1) (by rw [hl]; omega)
    rw [hl]
    clear hc hl ho
    go_wp2_with fail
    go_ret
    exact ⟨by rw [HF.out]; rfl, hb⟩
  · have hn' : inB n 1 31 = false := by simpa using hn
    rw [ordT_out n hn']
    clear hn
    go_enter Tryz.func52, Tryz.ntmps52
    go_wp2_with (go_at_call 123; refine (toB (i_in _ _ _ _) (by assumption)).mono ?_; rintro e w' ⟨rfl, rfl⟩)
    go_ret
    exact ⟨rfl, Below.refl _ _⟩
theorem s_words (w : World) : Calls Tryz.prog 129 #[] w fun e w' => ∃ v, e = .returned v ∧ OwnS w' w.heap.size v ord20 ∧ Below w.heap.size w w' := by
  go_enter Tryz.func129, Tryz.ntmps129
  go_wp2_with fail
  go_ret
  exact ⟨_, rfl, OwnS.lit w _ _ ord20 (by rfl) (Nat.le_refl _) (by decide), below_alloc _ _⟩
theorem ret_str {a b : List UInt8} (h : a = b) : Ending.returned (.string ⟨a.toArray⟩) = .returned (.string ⟨b.toArray⟩) := by rw [h]
theorem s_OrdinalText (n : Int) (w : World) : Calls Tryz.prog 61 #[.int .i64 n] w fun e w' => e = .returned (.string ⟨(ordT n).toArray⟩) ∧ Below w.heap.size w w' := by
  by_cases hn : inB n 1 31 = true
  · obtain ⟨h0, h1⟩ := inB_iff.1 hn
    have HF := Lib.hid (ordT_in n hn)
    have con := fun W => s_words W
    have CON := Lib.hid con; clear con
    by_cases h20 : n ≤ 20
    · have e1 := ord_20 (n.toNat - 1) (by omega)
      have E1 := Lib.hid e1; clear e1
      go_enter Tryz.func61, Tryz.ntmps61
      go_wp2_with (go_at_call 128; refine (toB (s_in _ _ _ _) (by assumption)).mono ?_; rintro e w' ⟨rfl, rfl⟩)
      refine (CON.out _).mono ?_
      rintro e w1 ⟨v, rfl, ho, hb⟩
      obtain ⟨g, c, rfl, _, _, _, _, hc, _⟩ := ho.openedC (by rw [ord20_len]; omega)
      have hcell := hc (n.toNat - 1) (by rw [ord20_len]; omega)
      rw [ord20_len]
      clear hc ho
      go_wp2_with fail
      go_ret
      exact ⟨by rw [HF.out, ← E1.out]; rfl, hb⟩
    · by_cases h30 : n = 30
      · subst h30
        go_enter Tryz.func61, Tryz.ntmps61
        go_wp2_with (go_at_call 128; refine (toB (s_in _ _ _ _) (by assumption)).mono ?_; rintro e w' ⟨rfl, rfl⟩)
        go_ret
        exact ⟨by rw [HF.out]; rfl, Below.refl _ _⟩
      · by_cases h31 : n = 31
        · subst h31
          go_enter Tryz.func61, Tryz.ntmps61
          go_wp2_with (go_at_call 128; refine (toB (s_in _ _ _ _) (by assumption)).mono ?_; rintro e w' ⟨rfl, rfl⟩)
          go_ret
          exact ⟨by rw [HF.out]; rfl, Below.refl _ _⟩
        · have e1 := ord_20 (n.toNat - 21) (by omega)
          have e2 := ord_tw (n.toNat - 21) (by omega)
          have e4 := ord_tlen (n.toNat - 21) (by omega)
          have hk : 20 + (n.toNat - 21) = n.toNat - 1 := by omega
          rw [hk] at e2
          have h20' : 20 < n := by omega
          have b30 : (n == 30) = false := by simpa using h30
          have b31 : (n == 31) = false := by simpa using h31
          obtain ⟨x, hx⟩ : ∃ x, ordL.getD (n.toNat - 21) [] = x := ⟨_, rfl⟩
          rw [hx] at e1 e2 e4
          have hln : ¬ 9223372036854775807 < 7 + x.length := by omega
          have E1 := Lib.hid e1; clear e1
          have E2 := Lib.hid e2; clear e2
          clear h20 h30 h31 hx hk
          go_enter Tryz.func61, Tryz.ntmps61
          go_wp2_with (go_at_call 128; refine (toB (s_in _ _ _ _) (by assumption)).mono ?_; rintro e w' ⟨rfl, rfl⟩)
          refine (CON.out _).mono ?_
          rintro e w1 ⟨v, rfl, ho, hb⟩
          obtain ⟨g, c, rfl, _, _, _, _, hc, _⟩ := ho.openedC (by rw [ord20_len]; omega)
          have hcell := hc (n.toNat - 21) (by rw [ord20_len]; omega)
          rw [ord20_len]
          have hkk : n.toNat - 21 = (n - 21).toNat := by omega
          rw [E1.out, hkk] at hcell
          clear hkk
          clear hc ho
          go_wp2_with fail
          go_ret
          exact ⟨by rw [HF.out, ← E2.out, ← bcat']; rfl, hb⟩
  · have hn' : inB n 1 31 = false := by simpa using hn
    rw [ordT_out n hn']
    clear hn
    go_enter Tryz.func61, Tryz.ntmps61
    go_wp2_with (go_at_call 128; refine (toB (s_in _ _ _ _) (by assumption)).mono ?_; rintro e w' ⟨rfl, rfl⟩)
    go_ret
    exact ⟨rfl, Below.refl _ _⟩
/-- what ReadOrdinal says -/
def rdO (x : List UInt8) : Int × Bool := if idxL ordL x < 0 then (0, false) else (idxL ordL x + 1, true)
theorem rdO_hit {x : List UInt8} {k : Nat} (h : idxL ordL x = k) : rdO x = ((k : Int) + 1, true) := by
  unfold rdO; rw [h, if_neg (by omega)]
theorem rdO_miss {x : List UInt8} (h : idxL ordL x = -1) : rdO x = (0, false) := by
  unfold rdO; rw [h]; rfl
theorem i_ReadOrdinal (x : List UInt8) (w : World) (hm : MaxOk w) : Calls Tryz.prog 54 #[.string ⟨x.toArray⟩] w fun e w' => e = .returned (.tuple #[.int .i64 (rdO x).1, .bool (rdO x).2]) ∧ Below w.heap.size w w' := by
  have con := i_ordinals w hm
  have CON := Lib.hid con; clear con
  go_enter Tryz.func54, Tryz.ntmps54
  go_wp2_with fail
  refine CON.out.mono ?_
  rintro e w1 ⟨v, rfl, ho, hb⟩
  go_wp2_with fail
  refine (i_sindex x _ ho).mono ?_
  rintro e w2 ⟨rfl, rfl⟩
  rcases idxL_cases ordL x with h | ⟨k, hk, h, _⟩
  · have HR := Lib.hid (rdO_miss h)
    rw [h]
    clear h
    go_wp2_with fail
    go_ret2
    exact ⟨by rw [HR.out]; rfl, hb⟩
  · have HR := Lib.hid (rdO_hit h)
    rw [h]
    have hl : ordL.length = 31 := rfl
    rw [hl] at hk
    clear h hl
    go_wp2_with fail
    go_ret2
    exact ⟨by rw [HR.out]; rfl, hb⟩
theorem s_ReadOrdinal (x : List UInt8) (w : World) : Calls Tryz.prog 55 #[.string ⟨x.toArray⟩] w fun e w' => e = .returned (.tuple #[.int .i64 (rdO x).1, .bool (rdO x).2]) ∧ Below w.heap.size w w' := by
  have hhit := fun k hk => idxL_hit (l := ordL) (x := x) (k := k) hk
  have hmiss := idxL_miss (l := ordL) (x := x)
  have hl : ordL.length = 31 := rfl
  rw [hl] at hhit hmiss
  have HH := Lib.hid hhit; clear hhit
  have HM := Lib.hid hmiss; clear hmiss hl
  go_enter Tryz.func55, Tryz.ntmps55
  go_wp2_with fail
  go_loopw [4] (fun i wr => ∃ k : Nat, k ≤ 31 ∧ i = .int .i64 (k + 1) ∧ Hid (∀ j, j < k → ordL.getD j [] ≠ x) ∧ Below w.heap.size w wr) (fun i _ => 32 - (intOf i).toNat)
  case atStart => exact ⟨0, by omega, rfl, fun j hj => absurd hj (by omega), Below.refl _ _⟩
  case round =>
    obtain ⟨k, hk, rfl, HN, hB⟩ := hrel
    by_cases hlt : k < 31
    · have ht := ordT_in ((k : Int) + 1) (inB_mk (by omega) (by omega))
      have hkk : ((k : Int) + 1).toNat - 1 = k := by omega
      rw [hkk] at ht
      have con := s_OrdinalText ((k : Int) + 1) wr
      rw [ht] at con
      have CON := Lib.hid con; clear con ht hkk
      go_wp2_with fail
      refine CON.out.mono ?_
      rintro e w1 ⟨rfl, hb1⟩
      obtain ⟨y, hy⟩ : ∃ y, ordL.getD k [] = y := ⟨_, rfl⟩
      rw [hy]
      have HY := Lib.hid hy; clear hy
      by_cases he : y = x
      · subst he
        have hr := rdO_hit (HH.out k hlt HY.out HN.out)
        have HR := Lib.hid hr; clear hr
        go_wp2_with fail
        go_ret2
        exact ⟨by rw [HR.out]; rfl, hB.trans (hb1.mono hB.size)⟩
      · have HE := Lib.hid he
        have hb : (y == x) = false := by simpa using he
        clear he
        go_wp2_with fail
        go_roundw
        case rel => exact ⟨k + 1, by omega, by go_num, fun j hj e => by
          rcases Nat.lt_or_ge j k with h | h
          · exact HN.out j h e
          · obtain rfl : j = k := by omega
            exact HE.out (HY.out.symm.trans e), hB.trans (hb1.mono hB.size)⟩
        case measure => simp [intOf]; omega
    · have hr := rdO_miss (HM.out (fun j hj => HN.out j (by omega)))
      obtain rfl : k = 31 := by omega
      have HR := Lib.hid hr; clear hr
      go_wp2_with fail
      go_ret2
      exact ⟨by rw [HR.out]; rfl, hB⟩
end Go.Proofs.YtmpgokijlikddaaGreatDoor
