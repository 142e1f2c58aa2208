/- CountForms: the program's and the reference's functions return what the plain function says. No condition. -/
import Derived.Test.YtmpgokijlikddaaGreatDoorNumeralOf
import Derived.Test.YtmpgokijlikddaaGreatDoorNumLen
import Derived.Test.YtmpgokijlikddaaGreatDoorStrs
import Derived.Test.YtmpgokijlikddaaGreatDoorRepl
import Derived.Shelf.Slices.CompactS
import Derived.IntWalk
namespace Go.Proofs.YtmpgokijlikddaaGreatDoor
open Go.RowKit
def two (l : List (List UInt8)) : List (List UInt8) := Lib.compact l
theorem compact_eq (x : List UInt8) : Lib.compact [x, x] = [x] := by
  simp [Lib.compact, Lib.compactUpTo, Lib.keeps, List.range_succ]
theorem compact_ne {x y : List UInt8} (h : x ≠ y) : Lib.compact [x, y] = [x, y] := by
  have h' : ¬ y = x := fun e => h e.symm
  simp [Lib.compact, Lib.compactUpTo, Lib.keeps, List.range_succ, h']
theorem i_compact2 {b : Nat} {v : Value} (x y : List UInt8) (w : World) (h : OwnS w b v [x, y]) :
    Calls Tryz.prog 113 #[v] w fun e w' => ∃ g c, e = .returned (.slice (some ⟨g, 0, none⟩) (Lib.compact [x, y]).length c) ∧ (Lib.compact [x, y]).length ≤ c ∧ c ≤ 9223372036854775807 ∧
      (∀ j, j < (Lib.compact [x, y]).length → w'.cell? ⟨g, j, none⟩ = some (.string ⟨((Lib.compact [x, y]).getD j []).toArray⟩)) ∧ Below b w w' := by
  obtain ⟨g, c, rfl, hbg, hlt, hc1, hc2, hc, hf⟩ := h.openedC (by simp)
  have hS : Lib.strsOf (fun i => (⟨([x, y].getD i []).toArray⟩ : ByteArray)) 2 = [x, y] := rfl
  have hcon := Tryz.slices_Compact_string_cells g 0 2 c (fun i => ⟨([x, y].getD i []).toArray⟩) w (by omega) (by simpa using hc1) (fun i hi => by rw [Nat.zero_add]; exact hc i (by simpa using hi)) (fun j _ => hf _)
  rw [hS] at hcon
  refine hcon.mono fun e w' ⟨he, q, hw⟩ => ⟨g, c, he, ?_, hc2, ?_, ?_⟩
  · by_cases hxy : x = y
    · subst hxy; rw [compact_eq]; simp at hc1 ⊢; omega
    · rw [compact_ne hxy]; exact hc1
  · have k0 : (w.drewN q).cell? ⟨g, 0, none⟩ = some (.string ⟨x.toArray⟩) := hc 0 (by simp)
    have k1 : (w.drewN q).cell? ⟨g, 1, none⟩ = some (.string ⟨y.toArray⟩) := hc 1 (by simp)
    intro j hj
    by_cases hxy : x = y
    · subst hxy
      rw [compact_eq] at hj hw ⊢
      have hw2 : w' = ((w.drewN q).setCell ⟨g, 0, none⟩ (.string ⟨x.toArray⟩)).setCell ⟨g, 1, none⟩ (.string ⟨#[]⟩) := hw
      obtain rfl : j = 0 := by simpa using hj
      rw [hw2, World.cell?_setCell_other _ _ _ _ (by simp), World.cell?_setCell_same _ _ _ k0]
      rfl
    · rw [compact_ne hxy] at hj hw ⊢
      have hw2 : w' = ((w.drewN q).setCell ⟨g, 0, none⟩ (.string ⟨x.toArray⟩)).setCell ⟨g, 1, none⟩ (.string ⟨y.toArray⟩) := hw
      have k1' : ((w.drewN q).setCell ⟨g, 0, none⟩ (.string ⟨x.toArray⟩)).cell? ⟨g, 1, none⟩ = some (.string ⟨y.toArray⟩) := by rw [World.cell?_setCell_other _ _ _ _ (by simp)]; exact k1
      match j, hj with
      | 0, _ => rw [hw2, World.cell?_setCell_other _ _ _ _ (by simp), World.cell?_setCell_same _ _ _ k0]; rfl
      | 1, _ => rw [hw2, World.cell?_setCell_same _ _ _ k1']; rfl
      | j + 2, hj => exact absurd hj (by have : [x, y].length = 2 := rfl; omega)
  · by_cases hxy : x = y
    · subst hxy
      rw [compact_eq] at hw
      have hw2 : w' = ((w.drewN q).setCell ⟨g, 0, none⟩ (.string ⟨x.toArray⟩)).setCell ⟨g, 1, none⟩ (.string ⟨#[]⟩) := hw
      rw [hw2]
      exact ((below_drewN (Below.refl b w) q).setCell (p := ⟨g, 0, none⟩) hbg _).setCell (p := ⟨g, 1, none⟩) hbg _
    · rw [compact_ne hxy] at hw
      have hw2 : w' = ((w.drewN q).setCell ⟨g, 0, none⟩ (.string ⟨x.toArray⟩)).setCell ⟨g, 1, none⟩ (.string ⟨y.toArray⟩) := hw
      rw [hw2]
      exact ((below_drewN (Below.refl b w) q).setCell (p := ⟨g, 0, none⟩) hbg _).setCell (p := ⟨g, 1, none⟩) hbg _
/-- in how many ways a form can be written -/
def waysL (l : List UInt8) : Int := 2 ^ (l.count 118) * (if l.getLast? = some 105 then 2 else 1)
def cntF (n : Int) : Int × Int := if inB n 1 3999 then ((if formL n true = formL n false then waysL (formL n false) else waysL (formL n false) + waysL (formL n true)), 0) else (0, 2)
theorem pow2_le (k : Nat) (h : k ≤ 20) : (2 : Int) ^ k ≤ 1048576 ∧ 1 ≤ (2 : Int) ^ k := by
  have : ∀ k : Nat, k < 21 → (2 : Int) ^ k ≤ 1048576 ∧ 1 ≤ (2 : Int) ^ k := by decide +kernel
  exact this k (by omega)
theorem count_le' (l : List UInt8) : l.count 118 ≤ l.length := List.count_le_length
theorem waysL_bd (l : List UInt8) (h : l.length ≤ 18) : 1 ≤ waysL l ∧ waysL l ≤ 2097152 := by
  have := pow2_le (l.count 118) (by have := count_le' l; omega)
  unfold waysL; split <;> omega
/-- the ways of the first k letters, of n -/
def waysK (l : List UInt8) (k : Nat) : Int := 2 ^ ((l.take k).count 118) * (if k = l.length ∧ l.getLast? = some 105 then 2 else 1)
theorem waysK_bd (l : List UInt8) (k : Nat) (h : l.length ≤ 18) : 1 ≤ waysK l k ∧ waysK l k ≤ 2097152 := by
  have h1 : (l.take k).count 118 ≤ (l.take k).length := List.count_le_length
  have := pow2_le ((l.take k).count 118) (by rw [List.length_take] at h1; omega)
  unfold waysK; split <;> omega
theorem waysK_0 (l : List UInt8) (h : 0 < l.length) : waysK l 0 = 1 := by
  unfold waysK; rw [if_neg (by omega)]; simp
theorem waysK_end (l : List UInt8) : waysK l l.length = waysL l := by
  unfold waysK waysL; simp
theorem waysK_mid (l : List UInt8) (k : Nat) (h : k < l.length) : waysK l k = 2 ^ ((l.take k).count 118) := by
  unfold waysK; rw [if_neg (by omega), Int.mul_one]
theorem waysK_v (l : List UInt8) (k : Nat) (h : k < l.length) (hc : l.getD k 0 = 118) : waysK l (k + 1) = 2 * waysK l k := by
  have hc' : l[k] = 118 := by rw [← hc, List.getD_eq_getElem?_getD, List.getElem?_eq_getElem h]; rfl
  rw [waysK_mid l k h]
  unfold waysK
  rw [if_neg, List.take_succ_eq_append_getElem h, List.count_append, hc']
  · simp [Int.pow_succ]; omega
  · rintro ⟨h1, h2⟩
    rw [List.getLast?_eq_getElem?, ← h1, Nat.add_sub_cancel, List.getElem?_eq_getElem h, hc'] at h2
    simp at h2
theorem waysK_i (l : List UInt8) (k : Nat) (h : k + 1 = l.length) (hc : l.getD k 0 = 105) : waysK l (k + 1) = 2 * waysK l k := by
  have hk : k < l.length := by omega
  have hc' : l[k] = 105 := by rw [← hc, List.getD_eq_getElem?_getD, List.getElem?_eq_getElem hk]; rfl
  rw [waysK_mid l k hk]
  unfold waysK
  rw [if_pos, List.take_succ_eq_append_getElem hk, List.count_append, hc']
  · simp; omega
  · refine ⟨h, ?_⟩
    rw [List.getLast?_eq_getElem?, ← h, Nat.add_sub_cancel, List.getElem?_eq_getElem hk, hc']
theorem waysK_o (l : List UInt8) (k : Nat) (h : k < l.length) (h1 : l.getD k 0 ≠ 118) (h2 : l.getD k 0 ≠ 105 ∨ k + 1 ≠ l.length) : waysK l (k + 1) = waysK l k := by
  have e : l.getD k 0 = l[k] := by rw [List.getD_eq_getElem?_getD, List.getElem?_eq_getElem h]; rfl
  rw [e] at h1 h2
  rw [waysK_mid l k h]
  unfold waysK
  rw [if_neg, List.take_succ_eq_append_getElem h, List.count_append]
  · simp [h1]
  · rintro ⟨h3, h4⟩
    rw [List.getLast?_eq_getElem?, ← h3, Nat.add_sub_cancel, List.getElem?_eq_getElem h] at h4
    rcases h2 with h2 | h2
    · exact h2 (by simpa using h4)
    · exact h2 h3
theorem getD_at' (a : ByteArray) (i : Nat) (h : i < a.size) : a.data.toList.getD i 0 = a[i] := by
  have h' : i < a.data.toList.length := by simpa using h
  rw [List.getD_eq_getElem?_getD, List.getElem?_eq_getElem h']; rfl
theorem ret_int {k : IntKind} {a b : Int} (h : a = b) : Ending.returned (.int k a) = .returned (.int k b) := by rw [h]
set_option maxHeartbeats 800000 in
theorem s_ways' (s : ByteArray) (w : World) (h0 : 0 < s.size) (h : s.size ≤ 18) : Calls Tryz.prog 117 #[.string s] w fun e w' => e = .returned (.int .i64 (waysL s.data.toList)) ∧ w = w' := by
  have hl : s.data.toList.length = s.size := rfl
  go_enter Tryz.func117, Tryz.ntmps117
  go_wp2_with fail
  go_loop [3, 4] (fun v i => ∃ k : Nat, k ≤ s.size ∧ i = .int .i64 k ∧ v = .int .i64 (waysK s.data.toList k)) (fun _ i => s.size - (intOf i).toNat)
  case atStart => exact ⟨0, by omega, rfl, by rw [waysK_0 _ (by omega)]⟩
  case round =>
    obtain ⟨k, hk, rfl, rfl⟩ := hrel
    have hbd := waysK_bd s.data.toList k (by omega)
    by_cases hlt : k < s.size
    · have e := getD_at' s k hlt
      by_cases hv : s[k] = 118
      · have hst := waysK_v s.data.toList k (by omega) (e.trans hv)
        have hb : ((s[k].toNat : Int) == 118) = true := by rw [hv]; rfl
        obtain ⟨x, hx⟩ : ∃ x, waysK s.data.toList k = x := ⟨_, rfl⟩
        rw [hx] at hbd hst ⊢
        have HS := Lib.hid hst
        clear hst hx hv e
        go_wp2_with fail
        go_round
        case rel => exact ⟨k + 1, by omega, by go_num, by rw [HS.out]⟩
        case measure => simp [intOf]; omega
      · have hv' : (s[k].toNat : Int) ≠ 118 := fun e => hv (UInt8.toNat_inj.1 (by have : (118 : UInt8).toNat = 118 := rfl; omega))
        have hb : ((s[k].toNat : Int) == 118) = false := by simpa using hv'
        by_cases hi : s[k] = 105 ∧ k + 1 = s.size
        · have hst := waysK_i s.data.toList k (by omega) (e.trans hi.1)
          have hb2 : ((s[k].toNat : Int) == 105) = true := by rw [hi.1]; rfl
          have hb3 : ((k : Int) == (s.size : Int) - 1) = true := by simp; omega
          obtain ⟨x, hx⟩ : ∃ x, waysK s.data.toList k = x := ⟨_, rfl⟩
          rw [hx] at hbd hst ⊢
          have HS := Lib.hid hst
          clear hst hx hv e hv' hi
          go_wp2_with fail
          go_round
          case rel => exact ⟨k + 1, by omega, by go_num, by rw [HS.out]⟩
          case measure => simp [intOf]; omega
        · have hst := waysK_o s.data.toList k (by omega) (by rw [e]; exact hv) (by
            rw [e]
            by_cases h105 : s[k] = 105
            · exact .inr fun e2 => hi ⟨h105, by omega⟩
            · exact .inl h105)
          obtain ⟨x, hx⟩ : ∃ x, waysK s.data.toList k = x := ⟨_, rfl⟩
          rw [hx] at hbd hst ⊢
          have HS := Lib.hid hst
          by_cases h105 : s[k] = 105
          · have hb2 : ((s[k].toNat : Int) == 105) = true := by rw [h105]; rfl
            have hb3 : ((k : Int) == (s.size : Int) - 1) = false := by
              have : k + 1 ≠ s.size := fun e2 => hi ⟨h105, e2⟩
              simp; omega
            clear hst hx hv e hv' hi h105
            go_wp2_with fail
            go_round
            case rel => exact ⟨k + 1, by omega, by go_num, by rw [HS.out]⟩
            case measure => simp [intOf]; omega
          · have h105' : (s[k].toNat : Int) ≠ 105 := fun e => h105 (UInt8.toNat_inj.1 (by have : (105 : UInt8).toNat = 105 := rfl; omega))
            have hb2 : ((s[k].toNat : Int) == 105) = false := by simpa using h105'
            clear hst hx hv e hv' hi h105 h105'
            go_wp2_with fail
            go_round
            case rel => exact ⟨k + 1, by omega, by go_num, by rw [HS.out]⟩
            case measure => simp [intOf]; omega
    · obtain rfl : k = s.size := by omega
      have hst : waysK s.data.toList s.size = waysL s.data.toList := waysK_end _
      have HS := Lib.hid hst
      clear hst
      go_wp2_with fail
      go_ret
      exact ⟨ret_int HS.out, rfl⟩
theorem s_ways (l : List UInt8) (w : World) (h0 : 0 < l.length) (h : l.length ≤ 18) : Calls Tryz.prog 117 #[.string ⟨l.toArray⟩] w fun e w' => e = .returned (.int .i64 (waysL l)) ∧ w = w' := s_ways' ⟨l.toArray⟩ w h0 h
theorem cntF_in_eq {n : Int} (h : inB n 1 3999 = true) (e : formL n true = formL n false) : cntF n = (waysL (formL n false), 0) := by unfold cntF; rw [if_pos h, if_pos e]
theorem cntF_in_ne {n : Int} (h : inB n 1 3999 = true) (e : formL n true ≠ formL n false) : cntF n = (waysL (formL n false) + waysL (formL n true), 0) := by unfold cntF; rw [if_pos h, if_neg e]
theorem cntF_out {n : Int} (h : inB n 1 3999 = false) : cntF n = (0, 2) := by unfold cntF; rw [if_neg (by simp [h])]
def sumW (L : List (List UInt8)) (k : Nat) : Int := ((L.take k).map waysL).sum
theorem sumW_succ (L : List (List UInt8)) (k : Nat) (h : k < L.length) : sumW L (k + 1) = sumW L k + waysL (L.getD k []) := by
  unfold sumW
  rw [List.take_succ_eq_append_getElem h, List.map_append, List.sum_append, List.getD_eq_getElem?_getD, List.getElem?_eq_getElem h]
  simp
theorem sumW_bd (L : List (List UInt8)) (hl : ∀ j, (L.getD j []).length ≤ 18) : ∀ k, k ≤ L.length → 0 ≤ sumW L k ∧ sumW L k ≤ 2097152 * k
  | 0, _ => by simp [sumW]
  | k + 1, h => by
    have ih := sumW_bd L hl k (by omega)
    have := waysL_bd _ (hl k)
    rw [sumW_succ L k (by omega)]
    omega
theorem s_CountForms (n : Int) (w : World) : Calls Tryz.prog 47 #[.int .i64 n] w fun e w' => e = .returned (.tuple #[.int .i64 (cntF n).1, .int .i64 (cntF n).2]) ∧ w = w' := by
  by_cases h : inB n 1 3999 = true
  · obtain ⟨h0, h1⟩ := inB_iff.1 h
    have f1 := formL_len n true h0 h1
    have f2 := formL_len n false h0 h1
    have p1 := formL_pos n true h0
    have p2 := formL_pos n false h0
    have c1 := fun W => toB (s_numeral n W) h
    have c2 := fun W => s_form n true W h0 h1
    have c3 := fun W => s_form n false W h0 h1
    have hin := fun e => cntF_in_eq h e
    have hne := fun e => cntF_in_ne h e
    obtain ⟨x, hx⟩ : ∃ x, formL n true = x := ⟨_, rfl⟩
    obtain ⟨y, hy⟩ : ∃ y, formL n false = y := ⟨_, rfl⟩
    rw [hx] at f1 p1 c2 hin hne
    rw [hy] at f2 p2 c3 hin hne
    have c4 := fun W => s_ways x W p1 f1
    have c5 := fun W => s_ways y W p2 f2
    have b1 := waysL_bd x f1
    have b2 := waysL_bd y f2
    have C1 := Lib.hid c1
    have C2 := Lib.hid c2
    have C3 := Lib.hid c3
    have C4 := Lib.hid c4
    have C5 := Lib.hid c5
    clear hx hy c1 c2 c3 c4 c5 h f1 f2 p1 p2
    go_enter Tryz.func47, Tryz.ntmps47
    go_wp2_with fail
    refine (C1.out _).mono ?_
    rintro e w1 ⟨rfl, rfl⟩
    go_wp2_with fail
    refine (C3.out _).mono ?_
    rintro e w1 ⟨rfl, rfl⟩
    go_wp2_with fail
    refine (C5.out _).mono ?_
    rintro e w1 ⟨rfl, rfl⟩
    by_cases he : x = y
    · have HF := Lib.hid (hin he)
      subst he
      clear hin hne
      go_wp2_with fail
      refine (C2.out _).mono ?_
      rintro e w1 ⟨rfl, rfl⟩
      go_wp2_with fail
      refine (C3.out _).mono ?_
      rintro e w1 ⟨rfl, rfl⟩
      go_wp2_with fail
      go_ret2
      exact ⟨by rw [HF.out]; rfl, rfl⟩
    · have HF := Lib.hid (hne he)
      have hb : (x == y) = false := by simpa using he
      have hb' : (x != y) = true := by simpa using he
      clear hin hne he
      go_wp2_with fail
      refine (C2.out _).mono ?_
      rintro e w1 ⟨rfl, rfl⟩
      go_wp2_with fail
      refine (C3.out _).mono ?_
      rintro e w1 ⟨rfl, rfl⟩
      go_wp2_with fail
      refine (C2.out _).mono ?_
      rintro e w1 ⟨rfl, rfl⟩
      go_wp2_with fail
      refine (C4.out _).mono ?_
      rintro e w1 ⟨rfl, rfl⟩
      go_wp2_with fail
      go_ret2
      exact ⟨by rw [HF.out]; rfl, rfl⟩
  · have h' : inB n 1 3999 = false := by simpa using h
    have HF := Lib.hid (cntF_out h')
    clear h
    go_enter Tryz.func47, Tryz.ntmps47
    go_wp2_with fail
    refine (toB (s_numeral _ _) h').mono ?_
    rintro e w1 ⟨rfl, rfl⟩
    go_wp2_with fail
    go_ret2
    exact ⟨by rw [HF.out]; rfl, rfl⟩
theorem i_CountForms (n : Int) (w : World) : Calls Tryz.prog 46 #[.int .i64 n] w fun e w' => e = .returned (.tuple #[.int .i64 (cntF n).1, .int .i64 (cntF n).2]) ∧ Below w.heap.size w w' := by
  by_cases h : inB n 1 3999 = true
  · obtain ⟨h0, h1⟩ := inB_iff.1 h
    have f1 := formL_len n true h0 h1
    have f2 := formL_len n false h0 h1
    have c1 := fun W => toB (i_numeral n W) h
    have c2 := fun W => i_numForm_T n W h0 h1
    have c3 := fun W => i_numForm_F n W h0 h1
    have hin := fun e => cntF_in_eq h e
    have hne := fun e => cntF_in_ne h e
    obtain ⟨x, hx⟩ : ∃ x, formL n true = x := ⟨_, rfl⟩
    obtain ⟨y, hy⟩ : ∃ y, formL n false = y := ⟨_, rfl⟩
    rw [hx] at f1 c2 hin hne
    rw [hy] at f2 c3 hin hne
    have b1 := waysL_bd x f1
    have b2 := waysL_bd y f2
    have C1 := Lib.hid c1
    have C2 := Lib.hid c2
    have C3 := Lib.hid c3
    clear hx hy c1 c2 c3 h
    go_enter Tryz.func46, Tryz.ntmps46
    go_wp2_with fail
    refine (C1.out _).mono ?_
    rintro e w1 ⟨rfl, rfl⟩
    go_wp2_with fail
    refine (C3.out _).mono ?_
    rintro e w1 ⟨rfl, hb1⟩
    go_wp2_with fail
    refine (C2.out _).mono ?_
    rintro e w2 ⟨rfl, hb2⟩
    go_wp2_with fail
    have ho := OwnS.lit w2 w2.heap.size #[.string ⟨y.toArray⟩, .string ⟨x.toArray⟩] [y, x] rfl (Nat.le_refl _) (by unfold maxLen; simp)
    refine (i_compact2 y x _ ho).mono ?_
    rintro e w3 ⟨g, c, rfl, hc1, hc2, hc, hb3⟩
    clear ho
    have hsum : sumW (Lib.compact [y, x]) (Lib.compact [y, x]).length = (cntF n).1 ∧ (cntF n).2 = 0 := by
      by_cases he : x = y
      · rw [hin he]; subst he; rw [compact_eq]; simp [sumW]
      · rw [hne he, compact_ne (fun e => he e.symm)]; simp [sumW]
    have hlens : ∀ j, ((Lib.compact [y, x]).getD j []).length ≤ 18 := by
      intro j
      by_cases he : x = y
      · subst he; rw [compact_eq]
        match j with
        | 0 => exact f1
        | j + 1 => simp
      · rw [compact_ne (fun e => he e.symm)]
        match j with
        | 0 => exact f2
        | 1 => exact f1
        | j + 2 => simp
    have hL2 : (Lib.compact [y, x]).length ≤ 2 := by
      by_cases he : x = y
      · subst he; rw [compact_eq]; simp
      · rw [compact_ne (fun e => he e.symm)]; simp
    clear hin hne b1 b2 f1 f2
    generalize Lib.compact [y, x] = L at *
    obtain ⟨h1, h2⟩ := hsum
    have HS := Lib.hid h1
    have HS2 := Lib.hid h2
    have HL := Lib.hid hlens
    have HC := Lib.hid hc
    obtain ⟨m, hm⟩ : ∃ m, L.length = m := ⟨_, rfl⟩
    rw [hm] at hc1 hL2 HC HS ⊢
    have HM := Lib.hid hm
    clear h1 h2 hlens hc hm
    go_wp2_with fail
    go_loop [4, 18] (fun v i => ∃ k : Nat, k ≤ m ∧ i = .int .i64 k ∧ v = .int .i64 (sumW L k)) (fun _ i => m - (intOf i).toNat)
    case atStart => exact ⟨0, by omega, rfl, rfl⟩
    case round =>
      obtain ⟨k, hk, rfl, rfl⟩ := hrel
      by_cases hlt : k < m
      · have c0 := HC.out k hlt
        have hz := HL.out k
        have hst := sumW_succ L k (by rw [HM.out]; exact hlt)
        have sb := sumW_bd L (fun j => HL.out j) k (by rw [HM.out]; omega)
        obtain ⟨z, hzz⟩ : ∃ z, L.getD k [] = z := ⟨_, rfl⟩
        rw [hzz] at c0 hz hst
        have hct := count_le' z
        have ha : z.length ≤ 9223372036854775807 := by omega
        have cc := fun W => Tryz.strings_Count_one ⟨z.toArray⟩ 118 W
        have hcc : Lib.countByte z 118 = z.count 118 := rfl
        have cs := fun W => Tryz.strings_HasSuffix ⟨z.toArray⟩ ⟨#[105]⟩ W ha
        clear hzz
        go_wp2_with fail
        refine (cc _).mono ?_
        rintro e w1 ⟨rfl, rfl⟩
        go_wp2_with fail
        refine (cs _).mono ?_
        rintro e w1 ⟨rfl, rfl⟩
        have hp := pow2_le (z.count 118) (by omega)
        have hwr : wrap64 ((2 : Int) ^ z.count 118) = (2 : Int) ^ z.count 118 := IntWalk.wrap64_in _ (by omega)
        rw [hwr]
        have hw : waysL z = (2 : Int) ^ z.count 118 * (if z.getLast? = some 105 then 2 else 1) := rfl
        generalize (2 : Int) ^ z.count 118 = p at *
        have hsf := suf_one 105 z
        have hmb : (m : Int) ≤ 2 := by omega
        have hkb : (k : Int) ≤ 2 := by omega
        by_cases hlast : z.getLast? = some 105
        · rw [if_pos hlast] at hw
          rw [hw] at hst
          have hsf' : Lib.hasSuffix z [105] = true := by rw [hsf]; simp [hlast]
          rw [hsf']
          have HST := Lib.hid hst
          clear hst hw hsf hsf' hlast hwr hcc cc cs
          go_wp2_with fail
          go_round
          case rel => exact ⟨k + 1, by omega, by go_num, by rw [HST.out]⟩
          case measure => simp [intOf]; omega
        · rw [if_neg hlast, Int.mul_one] at hw
          rw [hw] at hst
          have hsf' : Lib.hasSuffix z [105] = false := by rw [hsf]; simp [hlast]
          rw [hsf']
          have HST := Lib.hid hst
          clear hst hw hsf hsf' hlast hwr hcc cc cs
          go_wp2_with fail
          go_round
          case rel => exact ⟨k + 1, by omega, by go_num, by rw [HST.out]⟩
          case measure => simp [intOf]; omega
      · obtain rfl : k = m := by omega
        go_wp2_with fail
        go_ret2
        exact ⟨by rw [← HS.out, HS2.out]; rfl, below_step hb1 (below_step hb2 ((below_alloc _ _).trans hb3))⟩
  · have h' : inB n 1 3999 = false := by simpa using h
    have HF := Lib.hid (cntF_out h')
    clear h
    go_enter Tryz.func46, Tryz.ntmps46
    go_wp2_with fail
    refine (toB (i_numeral _ _) h').mono ?_
    rintro e w1 ⟨rfl, rfl⟩
    go_wp2_with fail
    go_ret2
    exact ⟨by rw [HF.out]; rfl, Below.refl _ _⟩
end Go.Proofs.YtmpgokijlikddaaGreatDoor
