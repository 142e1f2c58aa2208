/- ReadNumeral: the program's function returns what the plain function says. Conditions: a length that a machine can hold; that the library's variable MaxLen holds an int. -/
import Derived.Test.YtmpgokijlikddaaGreatDoorNumeralOf
import Derived.Test.YtmpgokijlikddaaGreatDoorNumLen
import Derived.Test.YtmpgokijlikddaaGreatDoorRnPlain
import Derived.Test.YtmpgokijlikddaaGreatDoorMax
namespace Go.Proofs.YtmpgokijlikddaaGreatDoor
open Go.RowKit
theorem i_uv (l : List UInt8) (w : World) (hm : MaxOk w) (hl : l.length ≤ 1000) : Calls Tryz.prog 111 #[.string ⟨l.toArray⟩, .string ⟨#[117]⟩, .string ⟨#[118]⟩] w fun e w' => e = .returned (.string ⟨(swp 117 118 l).toArray⟩) ∧ Below w.heap.size w w' := by
  obtain ⟨m, hm⟩ := hm
  have hc : Lib.countB ⟨l.toArray⟩ ⟨#[117]⟩ ≤ l.length := Lib.countB_le ⟨#[117]⟩ (by decide) l.length ⟨l.toArray⟩ (Nat.le_refl _)
  refine (Tryz.strings_ReplaceAll ⟨l.toArray⟩ ⟨#[117]⟩ ⟨#[118]⟩ m w ?_ hm (by decide) ?_).mono fun e w' ⟨he, hb⟩ => ⟨?_, hb⟩
  · show l.length < _; omega
  · have e1 : (⟨l.toArray⟩ : ByteArray).size = l.length := rfl
    have e2 : (⟨#[118]⟩ : ByteArray).size = 1 := rfl
    rw [e1, e2]; omega
  · rw [he]
    show Ending.returned (.string ⟨(Lib.replaceAll l [117] [118]).toArray⟩) = _
    rw [rep_swp 117 118 (by decide)]
theorem i_ixb (c : UInt8) (w : World) : Calls Tryz.prog 120 #[.string ⟨#[105, 118, 120, 108, 99, 100, 109]⟩, .int .u8 (c.toNat : Int)] w fun e w' => e = .returned (.int .i64 (Lib.indexByte rLetters c)) ∧ w = w' := by
  refine (Tryz.strings_IndexByte ⟨#[105, 118, 120, 108, 99, 100, 109]⟩ (c.toNat : Int) w).mono fun e w' ⟨he, hw⟩ => ⟨?_, hw.symm⟩
  have e1 : ((c.toNat : Int)).toNat.toUInt8 = c := by simp
  rw [he, e1]; rfl
theorem rtab_cell (w : World) (k : Nat) (h : k < 7) : (w.alloc (.cells #[.int .i64 1, .int .i64 5, .int .i64 10, .int .i64 50, .int .i64 100, .int .i64 500, .int .i64 1000] 2)).cell? ⟨w.heap.size, k, none⟩ = some (.int .i64 (rTab.getD k 0)) := by
  rw [World.cell?_alloc_mark]
  match k, h with
  | 0, _ => rfl
  | 1, _ => rfl
  | 2, _ => rfl
  | 3, _ => rfl
  | 4, _ => rfl
  | 5, _ => rfl
  | 6, _ => rfl
set_option maxHeartbeats 800000 in
theorem i_ReadNumeral (x : List UInt8) (w : World) (hm : MaxOk w) (hx : x.length ≤ 9223372036854775807) : Calls Tryz.prog 49 #[.string ⟨x.toArray⟩] w fun e w' => e = .returned (.tuple #[.int .i64 (rnF x).1, .bool (rnF x).2]) ∧ Below w.heap.size w w' := by
  have HM := Lib.hid hm; clear hm
  by_cases h0 : x.length < 1
  · have hF : rnF x = (0, false) := by
      have : x = [] := List.eq_nil_of_length_eq_zero (by omega)
      subst this; rfl
    have HF := Lib.hid hF
    clear hF
    have h0' : (x.length : Int) < 1 := by omega
    go_enter Tryz.func49, Tryz.ntmps49
    go_wp2_with fail
    go_ret2
    exact ⟨by rw [HF.out]; rfl, Below.refl _ _⟩
  · by_cases h20 : 20 < x.length
    · have hF : rnF x = (0, false) := by unfold rnF; rw [if_neg (by omega)]
      have HF := Lib.hid hF
      clear hF
      have h0' : (1 : Int) ≤ x.length := by omega
      have h20' : (20 : Int) < x.length := by omega
      go_enter Tryz.func49, Tryz.ntmps49
      go_wp2_with fail
      go_ret2
      exact ⟨by rw [HF.out]; rfl, Below.refl _ _⟩
    · have hF : rnF x = rnP (pl x) := by unfold rnF; rw [if_pos (by omega)]
      have HF := Lib.hid hF
      have h0' : (1 : Int) ≤ x.length := by omega
      have h20' : (x.length : Int) ≤ 20 := by omega
      have hpl : pl x = lastX 106 105 (swp 117 118 x) := rfl
      have hlen := pl_len x
      have hsl := swp_len 117 118 x
      have c3 := fun W (hW : MaxOk W) => i_uv x W hW (by omega)
      obtain ⟨m, hm⟩ : ∃ m, swp 117 118 x = m := ⟨_, rfl⟩
      rw [hm] at hsl c3 hpl
      obtain ⟨p, hp⟩ : ∃ p, pl x = p := ⟨_, rfl⟩
      rw [hp] at hpl hlen HF
      have c4 := fun W => Tryz.strings_CutSuffix ⟨m.toArray⟩ ⟨#[106]⟩ W (by show m.length ≤ _; omega)
      have C3 := Lib.hid c3
      have hdl : m.dropLast.length ≤ 20 := by simp; omega
      have hpn : p.length ≤ 20 := by omega
      have hpp : 0 < p.length := by omega
      clear hm c3 hsl hF h0 h20 hp hlen
      by_cases hlast : m.getLast? = some 106
      focus
        have hsuf : Lib.hasSuffix m [106] = true := by rw [suf_one]; simp [hlast]
        have htrim := trim_one 106 m hsuf
        have hr := hpl.trans (lastX_T hlast)
        have c5 : ∀ W, Calls Tryz.prog 112 #[.string ⟨m.toArray⟩, .string ⟨#[106]⟩] W fun e w' => e = .returned (.tuple #[.string ⟨m.dropLast.toArray⟩, .bool true]) ∧ w' = W := fun W => (c4 W).mono fun e w' ⟨he, hw⟩ => ⟨by rw [he]; show Ending.returned (.tuple #[.string ⟨(Lib.trimSuffix m [106]).toArray⟩, .bool (Lib.hasSuffix m [106])]) = _; rw [htrim, hsuf], hw⟩
        have C5 := Lib.hid c5
        obtain ⟨d, hd⟩ : ∃ d, m.dropLast = d := ⟨_, rfl⟩
        rw [hd] at C5 hr hdl
        have heq : (⟨d.toArray⟩ : ByteArray) ++ ⟨#[105]⟩ = ⟨p.toArray⟩ := by rw [hr, ← bcat]
        clear hd c4 c5 hr hsuf htrim hlast hpl
        have hn : ¬ 9223372036854775807 < d.length + 1 := by omega
        go_enter Tryz.func49, Tryz.ntmps49
        go_wp2_with fail
        refine (C3.out _ HM.out).mono ?_
        rintro e w2 ⟨rfl, hb2⟩
        go_wp2_with fail
        refine (C5.out _).mono ?_
        rintro e w3 ⟨rfl, rfl⟩
        go_wp2_with fail
        clear heq hn
      rotate_left
      focus
        have hsuf : Lib.hasSuffix m [106] = false := by rw [suf_one]; simp [hlast]
        have hr := hpl.trans (lastX_F hlast)
        subst hr
        have c5 : ∀ W, Calls Tryz.prog 112 #[.string ⟨p.toArray⟩, .string ⟨#[106]⟩] W fun e w' => (∃ t, e = .returned (.tuple #[t, .bool false])) ∧ w' = W := fun W => (c4 W).mono fun e w' ⟨he, hw⟩ => ⟨⟨.string ⟨(Lib.trimSuffix p [106]).toArray⟩, by rw [he]; show Ending.returned (.tuple #[.string ⟨(Lib.trimSuffix p [106]).toArray⟩, .bool (Lib.hasSuffix p [106])]) = _; rw [hsuf]⟩, hw⟩
        have C5 := Lib.hid c5
        clear c4 c5 hsuf hlast hpl hdl
        go_enter Tryz.func49, Tryz.ntmps49
        go_wp2_with fail
        refine (C3.out _ HM.out).mono ?_
        rintro e w2 ⟨rfl, hb2⟩
        go_wp2_with fail
        refine (C5.out _).mono ?_
        rintro e w3 ⟨⟨t, rfl⟩, rfl⟩
        go_wp2_with fail
      all_goals
        go_loopw [7, 8, 9] (fun nn nx ii wr => ∃ k : Nat, k ≤ p.length ∧ ii = .int .i64 ((k : Int) - 1) ∧ nn = .int .i64 (sumS (p.drop k)) ∧ nx = .int .i64 (headV (p.drop k)) ∧ Below w.heap.size w wr) (fun _ _ ii _ => (intOf ii + 1).toNat)
        case atStart => exact ⟨p.length, by omega, rfl, by rw [List.drop_length]; rfl, by rw [List.drop_length]; rfl, hb2⟩
        case round =>
          clear hb2
          obtain ⟨k, hk, rfl, rfl, rfl, hB⟩ := hrel
          have hw := hB.size
          have sb := sumS_bd (p.drop k)
          have hvb := headV_bd (p.drop k)
          have hdk : (p.drop k).length ≤ 20 := by simp; omega
          by_cases hk0 : 0 < k
          · obtain ⟨j, rfl⟩ : ∃ j, k = j + 1 := ⟨k - 1, by omega⟩
            have hj : j < p.length := by omega
            have hs1 := sumS_drop p j hj
            have hs2 := headV_drop p j hj
            have hun := known_drop p j hj
            obtain ⟨c, hc⟩ : ∃ c, p.getD j 0 = c := ⟨_, rfl⟩
            rw [hc] at hs1 hs2 hun
            have hcb := valB_bd c
            have hg : (⟨p.toArray⟩ : ByteArray)[j]'hj = c := by
              rw [← hc, List.getD_eq_getElem?_getD, List.getElem?_eq_getElem hj]; rfl
            have HG := Lib.hid hg
            have con := fun W => i_ixb c W
            rcases idx_known c with ⟨hv0, hi⟩ | ⟨kk, hk7, hi, ht, hv⟩
            · rw [hi] at con
              have hr := HF.out.trans (rnP_unknown (hun hv0))
              have HR := Lib.hid hr
              have CON := Lib.hid con
              clear hr con hun hs1 hs2 hi hv0 hg hc hcb
              go_wp2_with fail
              rw [HG.out]
              refine (CON.out _).mono ?_
              rintro e w4 ⟨rfl, rfl⟩
              go_wp2_with fail
              go_ret2
              exact ⟨by rw [HR.out]; rfl, hB⟩
            · rw [hi] at con
              have hcell := rtab_cell wr kk hk7
              rw [ht] at hcell
              have CON := Lib.hid con
              obtain ⟨v, hv'⟩ : ∃ v, valB c = v := ⟨_, rfl⟩
              obtain ⟨hd, hhd⟩ : ∃ hd, headV (p.drop (j + 1)) = hd := ⟨_, rfl⟩
              obtain ⟨sm, hsm⟩ : ∃ sm, sumS (p.drop (j + 1)) = sm := ⟨_, rfl⟩
              rw [hv'] at hs1 hs2 hcell hcb
              rw [hhd] at hs1 hvb ⊢
              rw [hsm] at hs1 sb ⊢
              have hjb : (j : Int) + 1 ≤ 20 := by omega
              clear con hun hi hg hc hv ht hv' hhd hsm
              by_cases hlt : v < hd
              · rw [if_pos hlt] at hs1
                have H1 := Lib.hid hs1
                have H2 := Lib.hid hs2
                clear hs1 hs2
                go_wp2_with fail
                rw [HG.out]
                refine (CON.out _).mono ?_
                rintro e w4 ⟨rfl, rfl⟩
                go_wp2_with fail
                go_roundw
                case rel => exact ⟨j, by omega, by go_num, by rw [H1.out]; go_num, by rw [H2.out], below_more hB hw _⟩
                case measure => simp [intOf]
              · rw [if_neg hlt] at hs1
                have H1 := Lib.hid hs1
                have H2 := Lib.hid hs2
                have hlt' : hd ≤ v := by omega
                clear hs1 hs2 hlt
                go_wp2_with fail
                rw [HG.out]
                refine (CON.out _).mono ?_
                rintro e w4 ⟨rfl, rfl⟩
                go_wp2_with fail
                go_roundw
                case rel => exact ⟨j, by omega, by go_num, by rw [H1.out]; go_num, by rw [H2.out], below_more hB hw _⟩
                case measure => simp [intOf]
          · obtain rfl : k = 0 := by omega
            rw [List.drop_zero] at sb ⊢
            by_cases hin : inB (sumS p) 1 3999 = true
            · obtain ⟨n0, n1⟩ := inB_iff.1 hin
              have c1 := fun W => toB (i_numeral (sumS p) W) hin
              have c2 := fun W => i_numForm_F (sumS p) W n0 n1
              have c3 := fun W => i_numForm_T (sumS p) W n0 n1
              have r1 := fun e => HF.out.trans (rnP_1 hin e)
              have r2 := fun e => HF.out.trans (rnP_2 hin e)
              have r3 := fun e1 e2 => HF.out.trans (rnP_3 (p := p) e1 e2)
              obtain ⟨nn, hnn⟩ : ∃ nn, sumS p = nn := ⟨_, rfl⟩
              rw [hnn] at c1 c2 c3 r1 r2 r3 sb n0 n1 ⊢
              obtain ⟨f, hf⟩ : ∃ f, formL nn false = f := ⟨_, rfl⟩
              obtain ⟨t, ht⟩ : ∃ t, formL nn true = t := ⟨_, rfl⟩
              rw [hf] at c2 r1 r3
              rw [ht] at c3 r2 r3
              have C1 := Lib.hid c1
              have C2 := Lib.hid c2
              have D3 := Lib.hid c3
              clear hf ht hnn c1 c2 c3 hin hvb
              by_cases e1 : p = f
              · have HR := Lib.hid (r1 e1)
                subst e1
                clear r1 r2 r3
                go_wp2_with fail
                refine (C1.out _).mono ?_
                rintro e w4 ⟨rfl, rfl⟩
                go_wp2_with fail
                refine (C2.out _).mono ?_
                rintro e w5 ⟨rfl, hb5⟩
                go_wp2_with fail
                go_ret2
                exact ⟨by rw [HR.out]; rfl, hB.trans (hb5.mono hw)⟩
              · have hb1 : (p == f) = false := by simpa using e1
                have hb1' : (p != f) = true := by simpa using e1
                by_cases e2 : p = t
                · have HR := Lib.hid (r2 e2)
                  subst e2
                  clear r1 r2 r3 e1
                  go_wp2_with fail
                  refine (C1.out _).mono ?_
                  rintro e w4 ⟨rfl, rfl⟩
                  go_wp2_with fail
                  refine (C2.out _).mono ?_
                  rintro e w5 ⟨rfl, hb5⟩
                  go_wp2_with fail
                  refine (D3.out _).mono ?_
                  rintro e w6 ⟨rfl, hb6⟩
                  go_wp2_with fail
                  go_ret2
                  exact ⟨by rw [HR.out]; rfl, hB.trans ((below_step hb5 hb6).mono hw)⟩
                · have HR := Lib.hid (r3 e1 e2)
                  have hb2 : (p == t) = false := by simpa using e2
                  have hb2' : (p != t) = true := by simpa using e2
                  clear r1 r2 r3 e1 e2
                  go_wp2_with fail
                  refine (C1.out _).mono ?_
                  rintro e w4 ⟨rfl, rfl⟩
                  go_wp2_with fail
                  refine (C2.out _).mono ?_
                  rintro e w5 ⟨rfl, hb5⟩
                  go_wp2_with fail
                  refine (D3.out _).mono ?_
                  rintro e w6 ⟨rfl, hb6⟩
                  go_wp2_with fail
                  go_ret2
                  exact ⟨by rw [HR.out]; rfl, hB.trans ((below_step hb5 hb6).mono hw)⟩
            · have hin' : inB (sumS p) 1 3999 = false := by simpa using hin
              have c1 := fun W => toB (i_numeral (sumS p) W) hin'
              have HR := Lib.hid (HF.out.trans (rnP_out hin'))
              have C1 := Lib.hid c1
              clear c1 hin hin'
              go_wp2_with fail
              refine (C1.out _).mono ?_
              rintro e w4 ⟨rfl, rfl⟩
              go_wp2_with fail
              go_ret2
              exact ⟨by rw [HR.out]; rfl, hB⟩
end Go.Proofs.YtmpgokijlikddaaGreatDoor
