/- OldNumeral: the program's and the reference's functions return what the plain function says. Condition, where the program replaces: that the library's variable MaxLen holds an int. -/
import Derived.Test.YtmpgokijlikddaaGreatDoorNumeralOf
import Derived.Test.YtmpgokijlikddaaGreatDoorNumLen
import Derived.Test.YtmpgokijlikddaaGreatDoorBytes
import Derived.Test.YtmpgokijlikddaaGreatDoorRepl
import Derived.Test.YtmpgokijlikddaaGreatDoorMax
namespace Go.Proofs.YtmpgokijlikddaaGreatDoor
open Go.RowKit
def oldT (n : Int) : List UInt8 := if inB n 1 3999 then lastX 105 106 (swp 118 117 (formL n true)) else []
theorem oldT_in {n : Int} (h : inB n 1 3999 = true) : oldT n = lastX 105 106 (swp 118 117 (formL n true)) := by unfold oldT; rw [if_pos h]
theorem oldT_out {n : Int} (h : inB n 1 3999 = false) : oldT n = [] := by unfold oldT; rw [if_neg (by simp [h])]
theorem i_vu (l : List UInt8) (w : World) (hm : MaxOk w) (hl : l.length ≤ 1000) : Calls Tryz.prog 111 #[.string ⟨l.toArray⟩, .string ⟨#[118]⟩, .string ⟨#[117]⟩] w fun e w' => e = .returned (.string ⟨(swp 118 117 l).toArray⟩) ∧ Below w.heap.size w w' := by
  obtain ⟨m, hm⟩ := hm
  have hc : Lib.countB ⟨l.toArray⟩ ⟨#[118]⟩ ≤ l.length := Lib.countB_le ⟨#[118]⟩ (by decide) l.length ⟨l.toArray⟩ (Nat.le_refl _)
  refine (Tryz.strings_ReplaceAll ⟨l.toArray⟩ ⟨#[118]⟩ ⟨#[117]⟩ m w ?_ hm (by decide) ?_).mono fun e w' ⟨he, hb⟩ => ⟨?_, hb⟩
  · show l.length < _; omega
  · have e1 : (⟨l.toArray⟩ : ByteArray).size = l.length := rfl
    have e2 : (⟨#[117]⟩ : ByteArray).size = 1 := rfl
    rw [e1, e2]; omega
  · rw [he]
    show Ending.returned (.string ⟨(Lib.replaceAll l [118] [117]).toArray⟩) = _
    rw [rep_swp 118 117 (by decide)]
theorem i_OldNumeral (n : Int) (w : World) (hm : MaxOk w) : Calls Tryz.prog 45 #[.int .i64 n] w fun e w' => e = .returned (.string ⟨(oldT n).toArray⟩) ∧ Below w.heap.size w w' := by
  have HM := Lib.hid hm; clear hm
  by_cases h : inB n 1 3999 = true
  · obtain ⟨h0, h1⟩ := inB_iff.1 h
    have HF := Lib.hid (oldT_in h)
    have fl := formL_len n true h0 h1
    have c1 := fun W => toB (i_numeral n W) h
    have c2 := fun W => i_numForm_T n W h0 h1
    obtain ⟨l, hl⟩ : ∃ l, formL n true = l := ⟨_, rfl⟩
    rw [hl] at fl c2 HF
    have hsl := swp_len 118 117 l
    have c3 := fun W (hW : MaxOk W) => i_vu l W hW (by omega)
    obtain ⟨m, hm⟩ : ∃ m, swp 118 117 l = m := ⟨_, rfl⟩
    rw [hm] at hsl c3 HF
    have ml : m.length ≤ 18 := by omega
    have c4 := fun W => Tryz.strings_CutSuffix ⟨m.toArray⟩ ⟨#[105]⟩ W (by show m.length ≤ _; omega)
    have C1 := Lib.hid c1
    have C2 := Lib.hid c2
    have C3 := Lib.hid c3
    have hdl : m.dropLast.length ≤ 18 := by simp; omega
    clear hl hm c1 c2 c3 hsl fl h
    by_cases hlast : m.getLast? = some 105
    · have hsuf : Lib.hasSuffix m [105] = true := by rw [suf_one]; simp [hlast]
      have htrim := trim_one 105 m hsuf
      have hr := HF.out.trans (lastX_T hlast)
      have c5 : ∀ W, Calls Tryz.prog 112 #[.string ⟨m.toArray⟩, .string ⟨#[105]⟩] W fun e w' => e = .returned (.tuple #[.string ⟨m.dropLast.toArray⟩, .bool true]) ∧ w' = W := fun W => (c4 W).mono fun e w' ⟨he, hw⟩ => ⟨by rw [he]; show Ending.returned (.tuple #[.string ⟨(Lib.trimSuffix m [105]).toArray⟩, .bool (Lib.hasSuffix m [105])]) = _; rw [htrim, hsuf], hw⟩
      have C5 := Lib.hid c5
      have HR := Lib.hid hr
      obtain ⟨d, hd⟩ : ∃ d, m.dropLast = d := ⟨_, rfl⟩
      rw [hd] at C5 HR hdl
      clear hd c4 c5 hr hsuf htrim hlast
      have hn : ¬ 9223372036854775807 < d.length + 1 := by omega
      go_enter Tryz.func45, Tryz.ntmps45
      go_wp2_with fail
      refine (C1.out _).mono ?_
      rintro e w1 ⟨rfl, rfl⟩
      go_wp2_with fail
      refine (C2.out _).mono ?_
      rintro e w1 ⟨rfl, hb1⟩
      go_wp2_with fail
      refine (C3.out _ (HM.out.below hb1)).mono ?_
      rintro e w2 ⟨rfl, hb2⟩
      go_wp2_with fail
      refine (C5.out _).mono ?_
      rintro e w3 ⟨rfl, rfl⟩
      go_wp2_with fail
      go_ret
      exact ⟨by rw [HR.out, ← bcat]; rfl, below_step hb1 hb2⟩
    · have hsuf : Lib.hasSuffix m [105] = false := by rw [suf_one]; simp [hlast]
      have hr := HF.out.trans (lastX_F hlast)
      have c5 : ∀ W, Calls Tryz.prog 112 #[.string ⟨m.toArray⟩, .string ⟨#[105]⟩] W fun e w' => (∃ t, e = .returned (.tuple #[t, .bool false])) ∧ w' = W := fun W => (c4 W).mono fun e w' ⟨he, hw⟩ => ⟨⟨.string ⟨(Lib.trimSuffix m [105]).toArray⟩, by rw [he]; show Ending.returned (.tuple #[.string ⟨(Lib.trimSuffix m [105]).toArray⟩, .bool (Lib.hasSuffix m [105])]) = _; rw [hsuf]⟩, hw⟩
      have C5 := Lib.hid c5
      have HR := Lib.hid hr
      clear c4 c5 hr hsuf hlast
      go_enter Tryz.func45, Tryz.ntmps45
      go_wp2_with fail
      refine (C1.out _).mono ?_
      rintro e w1 ⟨rfl, rfl⟩
      go_wp2_with fail
      refine (C2.out _).mono ?_
      rintro e w1 ⟨rfl, hb1⟩
      go_wp2_with fail
      refine (C3.out _ (HM.out.below hb1)).mono ?_
      rintro e w2 ⟨rfl, hb2⟩
      go_wp2_with fail
      refine (C5.out _).mono ?_
      rintro e w3 ⟨⟨t, rfl⟩, rfl⟩
      go_wp2_with fail
      go_ret
      exact ⟨by rw [HR.out]; rfl, below_step hb1 hb2⟩
  · have h' : inB n 1 3999 = false := by simpa using h
    rw [oldT_out h']
    clear h
    go_enter Tryz.func45, Tryz.ntmps45
    go_wp2_with fail
    refine (toB (i_numeral _ _) h').mono ?_
    rintro e w1 ⟨rfl, rfl⟩
    go_wp2_with fail
    go_ret
    exact ⟨rfl, Below.refl _ _⟩
theorem swp_at (x y : UInt8) (l : List UInt8) (k : Nat) (h : k < l.length) : (swp x y (l.take k) ++ l.drop k).getD k 0 = l.getD k 0 := by
  rw [List.getD_eq_getElem?_getD, List.getElem?_append_right (by rw [swp_len, List.length_take]; omega), swp_len, List.length_take, Nat.min_eq_left (by omega), Nat.sub_self, List.getElem?_drop]; simp
theorem swp_hit (x y : UInt8) (l : List UInt8) (k : Nat) (h : k < l.length) (hx : l.getD k 0 = x) : (swp x y (l.take k) ++ l.drop k).set k y = swp x y (l.take (k + 1)) ++ l.drop (k + 1) := by
  have hx' : l[k] = x := by rw [← hx, List.getD_eq_getElem?_getD, List.getElem?_eq_getElem h]; rfl
  rw [List.set_append_right _ _ (by rw [swp_len, List.length_take]; omega), swp_len, List.length_take, Nat.min_eq_left (by omega), Nat.sub_self, List.drop_eq_getElem_cons h, List.set_cons_zero, List.take_succ_eq_append_getElem h]
  unfold swp; simp [hx']
theorem swp_miss (x y : UInt8) (l : List UInt8) (k : Nat) (h : k < l.length) (hx : l.getD k 0 ≠ x) : swp x y (l.take k) ++ l.drop k = swp x y (l.take (k + 1)) ++ l.drop (k + 1) := by
  have hx' : l[k] ≠ x := by rw [List.getD_eq_getElem?_getD, List.getElem?_eq_getElem h] at hx; exact hx
  rw [List.drop_eq_getElem_cons h, List.take_succ_eq_append_getElem h]
  unfold swp
  simp only [List.map_append, List.map_cons, List.map_nil, if_neg hx', List.append_assoc, List.cons_append, List.nil_append]
theorem last_get {m : List UInt8} {n : Nat} (hn : m.length = n + 1) : m.getLast? = some (m.getD n 0) := by
  have h : n < m.length := by omega
  rw [List.getLast?_eq_getElem?, hn, Nat.add_sub_cancel, List.getElem?_eq_getElem h, List.getD_eq_getElem?_getD, List.getElem?_eq_getElem h]; rfl
theorem last_set {m : List UInt8} {n : Nat} (hn : m.length = n + 1) (y : UInt8) : m.set n y = m.dropLast ++ [y] := by
  have hne : m ≠ [] := by rintro rfl; simp at hn
  obtain ⟨ys, c, rfl⟩ : ∃ ys c, m = ys ++ [c] := ⟨m.dropLast, m.getLast hne, (List.dropLast_concat_getLast hne).symm⟩
  have : ys.length = n := by simpa using hn
  subst this
  simp
set_option maxRecDepth 100000 in
set_option maxHeartbeats 400000 in
theorem s_OldNumeral (n : Int) (w : World) : Calls Tryz.prog 60 #[.int .i64 n] w fun e w' => e = .returned (.string ⟨(oldT n).toArray⟩) ∧ Below w.heap.size w w' := by
  by_cases h : inB n 1 3999 = true
  · obtain ⟨h0, h1⟩ := inB_iff.1 h
    have HF := Lib.hid (oldT_in h)
    have fl := formL_len n true h0 h1
    have fp := formL_pos n true h0
    have c1 := fun W => toB (s_numeral n W) h
    have c2 := fun W => s_form n true W h0 h1
    obtain ⟨l, hl⟩ : ∃ l, formL n true = l := ⟨_, rfl⟩
    rw [hl] at fl fp c2 HF
    have C1 := Lib.hid c1
    have C2 := Lib.hid c2
    clear hl c1 c2 h
    have kc := fun W => run_bytes_of_string (P := Tryz.prog) W 9 22 5 ⟨l.toArray⟩ Tryz.underlying9 Tryz.underlying22 Tryz.underlying5
    go_enter Tryz.func60, Tryz.ntmps60
    go_wp2_with fail
    refine (C1.out _).mono ?_
    rintro e w1 ⟨rfl, rfl⟩
    go_wp2_with fail
    refine (C2.out _).mono ?_
    rintro e w1 ⟨rfl, rfl⟩
    go_wp2_with fail
    clear kc
    obtain ⟨cap, hcap⟩ : ∃ cap, grownCap w l.length 0 5 = cap := ⟨_, rfl⟩
    rw [hcap]
    clear hcap
    go_loopw [4] (fun i wr => ∃ k : Nat, k ≤ l.length ∧ i = .int .i64 k ∧ BAt wr w.heap.size (swp 118 117 (l.take k) ++ l.drop k) ∧ Below w.heap.size w wr) (fun i _ => l.length - (intOf i).toNat)
    case atStart => exact ⟨0, by omega, rfl, by simpa [swp] using (BAt.new w l _ _ (bytesRow_size _ _)).drew, (below_alloc _ _).drew⟩
    case round =>
      obtain ⟨k, hk, rfl, hA, hB⟩ := hrel
      have hal : (swp 118 117 (l.take k) ++ l.drop k).length = l.length := by simp [swp_len]; omega
      by_cases hlt : k < l.length
      · have c0 := hA.cell k (by omega)
        rw [swp_at _ _ _ _ hlt] at c0
        have f0 := hA.frozen k (by omega)
        have hst := hA.set_ k (by omega) 117
        by_cases hx : l.getD k 0 = 118
        · rw [swp_hit _ _ _ _ hlt hx] at hst
          rw [hx] at c0
          have HS := Lib.hid hst
          clear hst hA hx hal
          go_wp2_with fail
          go_roundw
          case rel => exact ⟨k + 1, by omega, by go_num, HS.out, hB.setCell (p := ⟨w.heap.size, k, none⟩) (Nat.le_refl _) _⟩
          case measure => simp [intOf]; omega
        · have hA2 := hA.to (swp_miss 118 117 l k hlt hx)
          have HS := Lib.hid hA2
          have hx' : ((l.getD k 0).toNat : Int) ≠ 118 := fun e => hx (UInt8.toNat_inj.1 (by have : (118 : UInt8).toNat = 118 := rfl; omega))
          generalize l.getD k 0 = c at c0 hx'
          have hb : ((c.toNat : Int) == 118) = false := by simpa using hx'
          clear hst hA hx hal hA2 hx'
          go_wp2_with fail
          go_roundw
          case rel => exact ⟨k + 1, by omega, by go_num, HS.out, hB⟩
          case measure => simp [intOf]; omega
      · obtain rfl : k = l.length := by omega
        have hA := hA.to (show swp 118 117 (l.take l.length) ++ l.drop l.length = swp 118 117 l by simp)
        have hml := swp_len 118 117 l
        obtain ⟨m, hm⟩ : ∃ m, swp 118 117 l = m := ⟨_, rfl⟩
        rw [hm] at hA hml HF
        clear hm hal
        have hml2 : m.length = (l.length - 1) + 1 := by omega
        have hlast := last_get hml2
        have hset := last_set hml2 106
        have c0 := hA.cell (l.length - 1) (by omega)
        have f0 := hA.frozen (l.length - 1) (by omega)
        have hA2 := hA.set_ (l.length - 1) (by omega) 106
        rw [hset] at hA2
        have hA2 : BAt (wr.setCell ⟨w.heap.size, l.length - 1, none⟩ (.int .u8 106)) w.heap.size (m.dropLast ++ [106]) := hA2
        have kb := hA.back l.length hml.symm cap
        have kb2 := hA2.back l.length (by rw [← hset, List.length_set, hml]) cap
        by_cases hx : m.getD (l.length - 1) 0 = 105
        · rw [hx] at hlast c0
          have hr := HF.out.trans (lastX_T hlast)
          have HR := Lib.hid hr
          clear hlast hset hA hA2 kb hx hr hml hml2
          go_wp2_with fail
          go_ret
          exact ⟨by rw [HR.out]; rfl, hB.setCell (p := ⟨w.heap.size, l.length - 1, none⟩) (Nat.le_refl _) _⟩
        · have hx' : ((m.getD (l.length - 1) 0).toNat : Int) ≠ 105 := fun e => hx (UInt8.toNat_inj.1 (by have : (105 : UInt8).toNat = 105 := rfl; omega))
          have hr := HF.out.trans (lastX_F (x := 105) (y := 106) (l := m) (by rw [hlast]; simpa using hx))
          have HR := Lib.hid hr
          generalize m.getD (l.length - 1) 0 = c at c0 hx'
          have hb : ((c.toNat : Int) == 105) = false := by simpa using hx'
          clear hlast hset hA hA2 kb2 hx hr hml hml2 hx'
          go_wp2_with fail
          go_ret
          exact ⟨by rw [HR.out]; rfl, hB⟩
  · have h' : inB n 1 3999 = false := by simpa using h
    rw [oldT_out h']
    clear h
    go_enter Tryz.func60, Tryz.ntmps60
    go_wp2_with fail
    refine (toB (s_numeral _ _) h').mono ?_
    rintro e w1 ⟨rfl, rfl⟩
    go_wp2_with fail
    go_ret
    exact ⟨rfl, Below.refl _ _⟩
end Go.Proofs.YtmpgokijlikddaaGreatDoor
