/- ReadNumeral: the reference's function returns what the plain function says. Condition: a length that a machine can hold. -/
import Derived.Test.YtmpgokijlikddaaGreatDoorNumLen
import Derived.Test.YtmpgokijlikddaaGreatDoorRnPlain
import Derived.Test.YtmpgokijlikddaaGreatDoorBytes
namespace Go.Proofs.YtmpgokijlikddaaGreatDoor
open Go.RowKit
theorem s_value (c : UInt8) (w : World) : Calls Tryz.prog 122 #[.int .u8 (c.toNat : Int)] w fun e w' => e = .returned (.int .i64 (valB c)) ∧ w = w' := by
  have key : ∀ d : UInt8, c ≠ d → ((c.toNat : Int) == (d.toNat : Int)) = false := fun d h => by
    have : (c.toNat : Int) ≠ (d.toNat : Int) := fun e => h (UInt8.toNat_inj.1 (by omega))
    simpa using this
  by_cases h1 : c = 105
  · subst h1
    clear key
    go_enter Tryz.func122, Tryz.ntmps122
    go_wp2_with fail
    go_ret
    exact ⟨rfl, rfl⟩
  · by_cases h2 : c = 118
    · subst h2
      clear key
      go_enter Tryz.func122, Tryz.ntmps122
      go_wp2_with fail
      go_ret
      exact ⟨rfl, rfl⟩
    · by_cases h3 : c = 120
      · subst h3
        clear key
        go_enter Tryz.func122, Tryz.ntmps122
        go_wp2_with fail
        go_ret
        exact ⟨rfl, rfl⟩
      · by_cases h4 : c = 108
        · subst h4
          clear key
          go_enter Tryz.func122, Tryz.ntmps122
          go_wp2_with fail
          go_ret
          exact ⟨rfl, rfl⟩
        · by_cases h5 : c = 99
          · subst h5
            clear key
            go_enter Tryz.func122, Tryz.ntmps122
            go_wp2_with fail
            go_ret
            exact ⟨rfl, rfl⟩
          · by_cases h6 : c = 100
            · subst h6
              clear key
              go_enter Tryz.func122, Tryz.ntmps122
              go_wp2_with fail
              go_ret
              exact ⟨rfl, rfl⟩
            · by_cases h7 : c = 109
              · subst h7
                clear key
                go_enter Tryz.func122, Tryz.ntmps122
                go_wp2_with fail
                go_ret
                exact ⟨rfl, rfl⟩
              · have hF : valB c = 0 := by unfold valB; simp only [h1, h2, h3, h4, h5, h6, h7, if_false]
                have k1 : ((c.toNat : Int) == 105) = false := key 105 h1
                have k2 : ((c.toNat : Int) == 118) = false := key 118 h2
                have k3 : ((c.toNat : Int) == 120) = false := key 120 h3
                have k4 : ((c.toNat : Int) == 108) = false := key 108 h4
                have k5 : ((c.toNat : Int) == 99) = false := key 99 h5
                have k6 : ((c.toNat : Int) == 100) = false := key 100 h6
                have k7 : ((c.toNat : Int) == 109) = false := key 109 h7
                have HF := Lib.hid hF
                clear key h1 h2 h3 h4 h5 h6 h7 hF
                go_enter Tryz.func122, Tryz.ntmps122
                go_wp2_with fail
                go_ret
                exact ⟨by rw [HF.out]; rfl, rfl⟩
def plK (x : List UInt8) (k : Nat) : List UInt8 := if k < x.length then swp 117 118 (x.take k) ++ x.drop k else pl x
theorem plK_len (x : List UInt8) (k : Nat) : (plK x k).length = x.length := by
  unfold plK
  split
  · simp [swp_len]; omega
  · exact pl_len x
theorem plK_lt {x : List UInt8} {k : Nat} (h : k < x.length) : plK x k = swp 117 118 (x.take k) ++ x.drop k := by unfold plK; rw [if_pos h]
theorem swpK_at (x y : UInt8) (l : List UInt8) (k : Nat) (h : k < l.length) : (swp x y (l.take k) ++ l.drop k).getD k 0 = l.getD k 0 := by
  rw [List.getD_eq_getElem?_getD, List.getElem?_append_right (by rw [swp_len, List.length_take]; omega), swp_len, List.length_take, Nat.min_eq_left (by omega), Nat.sub_self, List.getElem?_drop]; simp
theorem swpK_hit (x y : UInt8) (l : List UInt8) (k : Nat) (h : k < l.length) (hx : l.getD k 0 = x) : (swp x y (l.take k) ++ l.drop k).set k y = swp x y (l.take (k + 1)) ++ l.drop (k + 1) := by
  have hx' : l[k] = x := by rw [← hx, List.getD_eq_getElem?_getD, List.getElem?_eq_getElem h]; rfl
  rw [List.set_append_right _ _ (by rw [swp_len, List.length_take]; omega), swp_len, List.length_take, Nat.min_eq_left (by omega), Nat.sub_self, List.drop_eq_getElem_cons h, List.set_cons_zero, List.take_succ_eq_append_getElem h]
  unfold swp; simp [hx']
theorem swpK_miss (x y : UInt8) (l : List UInt8) (k : Nat) (h : k < l.length) (hx : l.getD k 0 ≠ x) : swp x y (l.take k) ++ l.drop k = swp x y (l.take (k + 1)) ++ l.drop (k + 1) := by
  have hx' : l[k] ≠ x := by rw [List.getD_eq_getElem?_getD, List.getElem?_eq_getElem h] at hx; exact hx
  rw [List.drop_eq_getElem_cons h, List.take_succ_eq_append_getElem h]
  unfold swp
  simp only [List.map_append, List.map_cons, List.map_nil, if_neg hx', List.append_assoc, List.cons_append, List.nil_append]
theorem swp_last {x : List UInt8} {k : Nat} (h : k + 1 = x.length) : (swp 117 118 x).getLast? = some (if x.getD k 0 = 117 then 118 else x.getD k 0) := by
  have hk : k < x.length := by omega
  rw [List.getLast?_eq_getElem?, swp_len, ← h, Nat.add_sub_cancel]
  unfold swp
  rw [List.getElem?_map, List.getElem?_eq_getElem hk, List.getD_eq_getElem?_getD, List.getElem?_eq_getElem hk]; rfl
theorem plK_next {x : List UInt8} {k : Nat} (h : k < x.length) (hn : ¬ (x.getD k 0 = 106 ∧ k + 1 = x.length)) : plK x (k + 1) = swp 117 118 (x.take (k + 1)) ++ x.drop (k + 1) := by
  by_cases hl : k + 1 < x.length
  · exact plK_lt hl
  · have he : k + 1 = x.length := by omega
    unfold plK
    rw [if_neg hl, he, List.take_length, List.drop_length, List.append_nil]
    unfold pl lastX
    rw [if_neg]
    rw [swp_last he]
    intro e
    by_cases h117 : x.getD k 0 = 117
    · rw [if_pos h117] at e; simp at e
    · rw [if_neg h117] at e; exact hn ⟨by simpa using e, he⟩
theorem plK_j {x : List UInt8} {k : Nat} (h : k + 1 = x.length) (hj : x.getD k 0 = 106) : (swp 117 118 (x.take k) ++ x.drop k).set k 105 = plK x (k + 1) := by
  have hk : k < x.length := by omega
  rw [swpK_miss 117 118 x k hk (by rw [hj]; decide)]
  unfold plK
  rw [if_neg (by omega), h, List.take_length, List.drop_length, List.append_nil]
  have hl := swp_last h
  rw [hj, if_neg (by decide)] at hl
  unfold pl lastX
  rw [if_pos hl]
  have hlen : (swp 117 118 x).length = k + 1 := by rw [swp_len]; exact h.symm
  have hne : swp 117 118 x ≠ [] := by intro e; rw [e] at hlen; simp at hlen
  obtain ⟨ys, c, he⟩ : ∃ ys c, swp 117 118 x = ys ++ [c] := ⟨_, _, (List.dropLast_concat_getLast hne).symm⟩
  rw [he] at hlen ⊢
  have : ys.length = k := by simpa using hlen
  subst this
  simp
theorem plK_end (x : List UInt8) : plK x x.length = pl x := by unfold plK; rw [if_neg (Nat.lt_irrefl _)]
theorem plK_start (x : List UInt8) : plK x 0 = x := by
  unfold plK
  split
  · simp [swp]
  · have : x = [] := List.eq_nil_of_length_eq_zero (by omega)
    subst this; rfl
set_option maxRecDepth 100000 in
set_option maxHeartbeats 400000 in
theorem s_plain (l : List UInt8) (w : World) (hl : l.length ≤ 20) : Calls Tryz.prog 121 #[.string ⟨l.toArray⟩] w fun e w' => e = .returned (.string ⟨(pl l).toArray⟩) ∧ Below w.heap.size w w' := by
  have kc := fun W => run_bytes_of_string (P := Tryz.prog) W 9 22 5 ⟨l.toArray⟩ Tryz.underlying9 Tryz.underlying22 Tryz.underlying5
  go_enter Tryz.func121, Tryz.ntmps121
  go_wp2_with fail
  clear kc
  obtain ⟨cap, hcap⟩ : ∃ cap, grownCap w l.length 0 5 = cap := ⟨_, rfl⟩
  rw [hcap]
  clear hcap
  go_loopw [4] (fun i wr => ∃ k : Nat, k ≤ l.length ∧ i = .int .i64 k ∧ BAt wr w.heap.size (plK l k) ∧ Below w.heap.size w wr) (fun i _ => l.length - (intOf i).toNat)
  case atStart => exact ⟨0, by omega, rfl, by rw [plK_start]; exact (BAt.new w l _ _ (bytesRow_size _ _)).drew, (below_alloc _ _).drew⟩
  case round =>
    obtain ⟨k, hk, rfl, hA, hB⟩ := hrel
    have hal := plK_len l k
    by_cases hlt : k < l.length
    · rw [plK_lt hlt] at hA hal
      have c0 := hA.cell k (by omega)
      rw [swpK_at _ _ _ _ hlt] at c0
      have f0 := hA.frozen k (by omega)
      by_cases hx : l.getD k 0 = 117
      · have hst := hA.set_ k (by omega) 118
        rw [swpK_hit _ _ _ _ hlt hx, ← plK_next hlt (by rw [hx]; rintro ⟨h, _⟩; cases h)] at hst
        rw [hx] at c0
        have HS := Lib.hid hst
        clear hst hA hx hal
        go_wp2_with fail
        go_roundw
        case rel => exact ⟨k + 1, by omega, by go_num, HS.out, hB.setCell (p := ⟨w.heap.size, k, none⟩) (Nat.le_refl _) _⟩
        case measure => simp [intOf]; omega
      · by_cases hj : l.getD k 0 = 106
        · by_cases he : k + 1 = l.length
          · have hst := hA.set_ k (by omega) 105
            rw [plK_j he hj] at hst
            rw [hj] at c0
            have HS := Lib.hid hst
            have hke : ((k : Int) == (l.length : Int) - 1) = true := by simp; omega
            clear hst hA hx hal hj he
            go_wp2_with fail
            go_roundw
            case rel => exact ⟨k + 1, by omega, by go_num, HS.out, hB.setCell (p := ⟨w.heap.size, k, none⟩) (Nat.le_refl _) _⟩
            case measure => simp [intOf]; omega
          · have hA2 := hA.to ((swpK_miss 117 118 l k hlt hx).trans (plK_next hlt (by rintro ⟨_, h⟩; exact he h)).symm)
            rw [hj] at c0
            have HS := Lib.hid hA2
            have hke : ¬ (k : Int) = (l.length : Int) - 1 := by omega
            clear hA2 hA hx hal hj
            go_wp2_with fail
            go_roundw
            case rel => exact ⟨k + 1, by omega, by go_num, HS.out, hB⟩
            case measure => simp [intOf]; omega
        · have hA2 := hA.to ((swpK_miss 117 118 l k hlt hx).trans (plK_next hlt (by rintro ⟨h, _⟩; exact hj h)).symm)
          have HS := Lib.hid hA2
          have hx' : ((l.getD k 0).toNat : Int) ≠ 117 := fun e => hx (UInt8.toNat_inj.1 (by have : (117 : UInt8).toNat = 117 := rfl; omega))
          have hj' : ((l.getD k 0).toNat : Int) ≠ 106 := fun e => hj (UInt8.toNat_inj.1 (by have : (106 : UInt8).toNat = 106 := rfl; omega))
          generalize l.getD k 0 = c at c0 hx' hj'
          have hb : ((c.toNat : Int) == 117) = false := by simpa using hx'
          have hb2 : ((c.toNat : Int) == 106) = false := by simpa using hj'
          clear hA2 hA hx hal hj hx' hj'
          go_wp2_with fail
          go_roundw
          case rel => exact ⟨k + 1, by omega, by go_num, HS.out, hB⟩
          case measure => simp [intOf]; omega
    · obtain rfl : k = l.length := by omega
      rw [plK_end] at hA
      have kb := hA.back l.length (pl_len l).symm cap
      clear hA hal
      go_wp2_with fail
      go_ret
      exact ⟨rfl, hB⟩
theorem head_drop (p : List UInt8) (k : Nat) : headV (p.drop (k + 1)) = if k + 1 < p.length then valB (p.getD (k + 1) 0) else 0 := by
  split
  · rename_i h; exact headV_drop p (k + 1) h
  · rename_i h; rw [List.drop_eq_nil_of_le (by omega)]; rfl
set_option maxRecDepth 100000 in
set_option maxHeartbeats 800000 in
theorem s_ReadNumeral (x : List UInt8) (w : World) (hx : x.length ≤ 9223372036854775807) : Calls Tryz.prog 50 #[.string ⟨x.toArray⟩] w fun e w' => e = .returned (.tuple #[.int .i64 (rnF x).1, .bool (rnF x).2]) ∧ Below w.heap.size w w' := by
  by_cases h20 : 20 < x.length
  · have hF : rnF x = (0, false) := by unfold rnF; rw [if_neg (by omega)]
    have HF := Lib.hid hF
    clear hF
    have h20' : (20 : Int) < x.length := by omega
    go_enter Tryz.func50, Tryz.ntmps50
    go_wp2_with fail
    go_ret2
    exact ⟨by rw [HF.out]; rfl, Below.refl _ _⟩
  · have hF : rnF x = rnP (pl x) := by unfold rnF; rw [if_pos (by omega)]
    have HF := Lib.hid hF
    have h20' : (x.length : Int) ≤ 20 := by omega
    have con := fun W => s_plain x W (by omega)
    have hlen := pl_len x
    obtain ⟨p, hp⟩ : ∃ p, pl x = p := ⟨_, rfl⟩
    rw [hp] at con hlen HF
    have hpn : p.length ≤ 20 := by omega
    have CON := Lib.hid con
    clear con hp hF h20 hlen
    have hd0 : (x.length : Int) ≤ 20 := h20'
    go_enter Tryz.func50, Tryz.ntmps50
    go_wp2_with fail
    refine (CON.out _).mono ?_
    rintro e w2 ⟨rfl, hb2⟩
    go_wp2_with fail
    have hw := hb2.size
    go_loopw [5, 6] (fun nn ii wr => ∃ k : Nat, k ≤ p.length ∧ ii = .int .i64 k ∧ nn = .int .i64 (sumS p - sumS (p.drop k)) ∧ w2 = wr) (fun _ ii _ => p.length - (intOf ii).toNat)
    case atStart => exact ⟨0, by omega, rfl, by rw [List.drop_zero, Int.sub_self], rfl⟩
    case round =>
      obtain ⟨k, hk, rfl, rfl, rfl⟩ := hrel
      have sb := sumS_bd (p.drop k)
      have sb0 := sumS_bd p
      have sb1 := sumS_bd (p.drop (k + 1))
      have hdk : (p.drop k).length ≤ 20 := by simp; omega
      have hdk1 : (p.drop (k + 1)).length ≤ 20 := by simp; omega
      by_cases hlt : k < p.length
      · have hs1 := sumS_drop p k hlt
        have hs2 := head_drop p k
        obtain ⟨c, hc⟩ : ∃ c, p.getD k 0 = c := ⟨_, rfl⟩
        rw [hc] at hs1
        have hcb := valB_bd c
        have hg : (⟨p.toArray⟩ : ByteArray)[k]'hlt = c := by
          rw [← hc, List.getD_eq_getElem?_getD, List.getElem?_eq_getElem hlt]; rfl
        have HG := Lib.hid hg
        have con := fun W => s_value c W
        obtain ⟨v, hv⟩ : ∃ v, valB c = v := ⟨_, rfl⟩
        rw [hv] at con hs1 hcb
        have CON' := Lib.hid con
        obtain ⟨sa, hsa⟩ : ∃ sa, sumS (p.drop k) = sa := ⟨_, rfl⟩
        obtain ⟨sm, hsm⟩ : ∃ sm, sumS (p.drop (k + 1)) = sm := ⟨_, rfl⟩
        obtain ⟨sp, hsp⟩ : ∃ sp, sumS p = sp := ⟨_, rfl⟩
        by_cases hn : k + 1 < p.length
        · rw [if_pos hn] at hs2
          obtain ⟨c2, hc2⟩ : ∃ c, p.getD (k + 1) 0 = c := ⟨_, rfl⟩
          rw [hc2] at hs2
          have hcb2 := valB_bd c2
          have hg2 : (⟨p.toArray⟩ : ByteArray)[k + 1]'hn = c2 := by
            rw [← hc2, List.getD_eq_getElem?_getD, List.getElem?_eq_getElem hn]; rfl
          have HG2 := Lib.hid hg2
          have con2 := fun W => s_value c2 W
          obtain ⟨v2, hv2⟩ : ∃ v, valB c2 = v := ⟨_, rfl⟩
          rw [hv2] at con2 hcb2 hs2
          have CON2 := Lib.hid con2
          rw [hs2, hsm, hsa] at hs1
          rw [hsa] at sb
          rw [hsm] at sb1
          rw [hsp] at sb0
          rw [hsa, hsp]
          by_cases hneg : v < v2
          · rw [if_pos hneg] at hs1
            have H1 := Lib.hid (show sp - sa + -v = sp - sm by omega)
            clear con con2 hg hg2 hc hc2 hv hv2 hs1 hs2 hsa
            go_wp2_with fail
            rw [HG.out]
            refine (CON'.out _).mono ?_
            rintro e w4 ⟨rfl, rfl⟩
            go_wp2_with fail
            rw [HG2.out]
            refine (CON2.out _).mono ?_
            rintro e w5 ⟨rfl, rfl⟩
            go_wp2_with fail
            go_roundw
            case rel => exact ⟨k + 1, by omega, by go_num, by rw [H1.out, hsm], by trivial⟩
            case measure => simp [intOf]; omega
          · rw [if_neg hneg] at hs1
            have H1 := Lib.hid (show sp - sa + v = sp - sm by omega)
            have hneg' : v2 ≤ v := by omega
            clear con con2 hg hg2 hc hc2 hv hv2 hs1 hs2 hsa hneg
            go_wp2_with fail
            rw [HG.out]
            refine (CON'.out _).mono ?_
            rintro e w4 ⟨rfl, rfl⟩
            go_wp2_with fail
            rw [HG2.out]
            refine (CON2.out _).mono ?_
            rintro e w5 ⟨rfl, rfl⟩
            go_wp2_with fail
            go_roundw
            case rel => exact ⟨k + 1, by omega, by go_num, by rw [H1.out, hsm], by trivial⟩
            case measure => simp [intOf]; omega
        · rw [if_neg hn] at hs2
          have hd1 : (p.length : Int) ≤ (k : Int) + 1 := by omega
          rw [hs2, hsm, hsa] at hs1
          rw [hsa] at sb
          rw [hsm] at sb1
          rw [hsp] at sb0
          rw [hsa, hsp]
          rw [if_neg (show ¬ v < 0 by omega)] at hs1
          have H1 := Lib.hid (show sp - sa + v = sp - sm by omega)
          clear con hg hc hv hs1 hs2 hsa hn
          go_wp2_with fail
          rw [HG.out]
          refine (CON'.out _).mono ?_
          rintro e w4 ⟨rfl, rfl⟩
          go_wp2_with fail
          go_roundw
          case rel => exact ⟨k + 1, by omega, by go_num, by rw [H1.out, hsm], by trivial⟩
          case measure => simp [intOf]; omega
      · obtain rfl : k = p.length := by omega
        rw [List.drop_length, show sumS [] = 0 from rfl, Int.sub_zero]
        clear sb sb1 hdk hdk1 hlt
        by_cases hin : inB (sumS p) 1 3999 = true
        · obtain ⟨n0, n1⟩ := inB_iff.1 hin
          have c1 := fun W => toB (s_numeral (sumS p) W) hin
          have c2 := fun W => s_form (sumS p) false W n0 n1
          have c3 := fun W => s_form (sumS p) true W n0 n1
          have r1 := fun e => HF.out.trans (rnP_1 hin e)
          have r2 := fun e => HF.out.trans (rnP_2 hin e)
          have r3 := fun e1 e2 => HF.out.trans (rnP_3 (p := p) e1 e2)
          obtain ⟨nn, hnn⟩ : ∃ nn, sumS p = nn := ⟨_, rfl⟩
          rw [hnn] at c1 c2 c3 r1 r2 r3 sb0 n0 n1 ⊢
          obtain ⟨f, hf⟩ : ∃ f, formL nn false = f := ⟨_, rfl⟩
          obtain ⟨t, ht⟩ : ∃ t, formL nn true = t := ⟨_, rfl⟩
          rw [hf] at c2 r1 r3
          rw [ht] at c3 r2 r3
          have C1 := Lib.hid c1
          have C2 := Lib.hid c2
          have D3 := Lib.hid c3
          clear hf ht hnn c1 c2 c3 hin
          by_cases e1 : p = f
          · have HR := Lib.hid (r1 e1)
            subst e1
            clear r1 r2 r3
            go_wp2_with fail
            refine (C1.out _).mono ?_
            rintro e w4 ⟨rfl, rfl⟩
            go_wp2_with fail
            refine (C2.out _).mono ?_
            rintro e w5 ⟨rfl, rfl⟩
            go_wp2_with fail
            go_ret2
            exact ⟨by rw [HR.out]; rfl, hb2⟩
          · have hb1 : (p == f) = false := by simpa using e1
            have hb1' : (p != f) = true := by simpa using e1
            by_cases e2 : p = t
            · have HR := Lib.hid (r2 e2)
              subst e2
              clear r1 r2 r3 e1
              go_wp2_with fail
              refine (C1.out _).mono ?_
              rintro e w4 ⟨rfl, rfl⟩
              go_wp2_with fail
              refine (C2.out _).mono ?_
              rintro e w5 ⟨rfl, rfl⟩
              go_wp2_with fail
              refine (D3.out _).mono ?_
              rintro e w6 ⟨rfl, rfl⟩
              go_wp2_with fail
              go_ret2
              exact ⟨by rw [HR.out]; rfl, hb2⟩
            · have HR := Lib.hid (r3 e1 e2)
              have hb3 : (p == t) = false := by simpa using e2
              have hb3' : (p != t) = true := by simpa using e2
              clear r1 r2 r3 e1 e2
              go_wp2_with fail
              refine (C1.out _).mono ?_
              rintro e w4 ⟨rfl, rfl⟩
              go_wp2_with fail
              refine (C2.out _).mono ?_
              rintro e w5 ⟨rfl, rfl⟩
              go_wp2_with fail
              refine (D3.out _).mono ?_
              rintro e w6 ⟨rfl, rfl⟩
              go_wp2_with fail
              go_ret2
              exact ⟨by rw [HR.out]; rfl, hb2⟩
        · have hin' : inB (sumS p) 1 3999 = false := by simpa using hin
          have c1 := fun W => toB (s_numeral (sumS p) W) hin'
          have HR := Lib.hid (HF.out.trans (rnP_out hin'))
          have C1 := Lib.hid c1
          clear c1 hin hin'
          go_wp2_with fail
          refine (C1.out _).mono ?_
          rintro e w4 ⟨rfl, rfl⟩
          go_wp2_with fail
          go_ret2
          exact ⟨by rw [HR.out]; rfl, hb2⟩
end Go.Proofs.YtmpgokijlikddaaGreatDoor
