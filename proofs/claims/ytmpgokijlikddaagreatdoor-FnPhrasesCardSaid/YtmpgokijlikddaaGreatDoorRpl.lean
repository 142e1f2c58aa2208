/- The byte replacer of strings.Replacer, with the table for v, j, y, w. Conditions: how the table lies; a text of at most 20 letters (then nothing is counted). -/
import Derived.Test.YtmpgokijlikddaaGreatDoorNorm
import Derived.Test.YtmpgokijlikddaaGreatDoorBytes
import Derived.Test.YtmpgokijlikddaaGreatDoorStrs
import Derived.Lib.SlBuf
import Derived.IntWalk
import Derived.WalkSpells
import Derived.Laws.MakeOwn
import Derived.Laws.IdiomCopy
import Derived.Deep.RegionHeld3
namespace Go.Proofs.YtmpgokijlikddaaGreatDoor
open Go.RowKit
/-- the replacer's table in block g -/
def RepT (w : World) (g : Nat) : Prop := ∀ c : UInt8, ∃ v, w.cell? ⟨g, c.toNat, none⟩ = some v ∧ (chB c = false → v = .slice none 0 0) ∧
  (chB c = true → ∃ b cap, v = .slice (some ⟨b, 0, none⟩) (wdB c).length cap ∧ b < w.heap.size ∧ ∀ j x, (wdB c)[j]? = some x → w.cell? ⟨b, j, none⟩ = some (.int .u8 (x.toNat : Int)))
theorem RepT.below {w w' : World} {g : Nat} (h : RepT w g) (hg : g < w.heap.size) (hb : Below w.heap.size w w') : RepT w' g := fun c => by
  obtain ⟨v, h1, h2, h3⟩ := h c
  refine ⟨v, (hb.cell (p := ⟨g, c.toNat, none⟩) hg).trans h1, h2, fun hc => ?_⟩
  obtain ⟨b, cap, e, hlt, h4⟩ := h3 hc
  exact ⟨b, cap, e, Nat.lt_of_lt_of_le hlt hb.size, fun j x hx => (hb.cell (p := ⟨b, j, none⟩) hlt).trans (h4 j x hx)⟩
theorem put_byte {w0 wr : World} {h N : Nat} {acc : List UInt8} (hb : Lib.Buf w0 wr h N acc) (c : UInt8) (hl : acc.length < N) : Lib.Buf w0 (wr.setCell ⟨h, acc.length, none⟩ (.int .u8 (c.toNat : Int))) h N (acc ++ [c]) where
  below := hb.below.setCell (p := ⟨h, acc.length, none⟩) (Nat.le_refl _) _
  there := fun j hj => by
    by_cases e : acc.length = j
    · subst e
      obtain ⟨v, hv⟩ := Option.isSome_iff_exists.1 (hb.there _ hl)
      rw [World.cell?_setCell_same _ _ _ hv]; rfl
    · rw [World.cell?_setCell_other _ _ _ _ (fun e' => e (by injection e'))]; exact hb.there j hj
  free := fun j hj => by rw [World.frozen?_setCell]; exact hb.free j hj
  holds := fun j x hx => by
    by_cases h1 : j < acc.length
    · rw [List.getElem?_append_left h1] at hx
      rw [World.cell?_setCell_other _ _ _ _ (fun e' => by injection e' with _ e'; omega)]
      exact hb.holds j x hx
    · rw [List.getElem?_append_right (by omega)] at hx
      have hj : j - acc.length = 0 := by
        by_cases h0 : j - acc.length = 0
        · exact h0
        · rw [List.getElem?_eq_none (by simp; omega)] at hx; cases hx
      rw [hj] at hx
      simp at hx
      obtain rfl : j = acc.length := by omega
      obtain ⟨v, hv⟩ := Option.isSome_iff_exists.1 (hb.there _ hl)
      rw [World.cell?_setCell_same _ _ _ hv, hx]
  fits := by simp; omega
theorem buf_back {w0 wr : World} {h N : Nat} {acc : List UInt8} (hb : Lib.Buf w0 wr h N acc) (hN : acc.length = N) (cap : Nat) :
    (convert 22 9 (.slice (some ⟨h, 0, none⟩) N cap)).run Tryz.prog wr = .ok (.string ⟨acc.toArray⟩) wr := by
  subst hN
  refine run_convert_bytes_back wr 22 9 5 ⟨h, 0, none⟩ cap acc Tryz.underlying22 Tryz.underlying5 Tryz.underlying9 fun j hj => ?_
  have e : (⟨h, 0, none⟩ : Addr).add j = ⟨h, j, none⟩ := by unfold Addr.add; split <;> simp_all
  rw [e, hb.holds j acc[j] (List.getElem?_eq_getElem hj)]
theorem buf_drew {w0 wr : World} {h N : Nat} {acc : List UInt8} (hb : Lib.Buf w0 wr h N acc) : Lib.Buf w0 wr.drew h N acc := ⟨hb.below.drew, hb.there, hb.free, hb.holds, hb.fits⟩
theorem infoU8 : (Tryz.prog.info? 5).map (fun i => (i.zero, i.size, i.bytes)) = some (some (.int .u8 0), 1, 1) := by kernel_rfl
theorem mk_bytes (w : World) (N : Nat) (h : N ≤ 1000) : (Instr.makeSlice 22 (.int .i64 (N : Int)) (.int .i64 (N : Int))).run Tryz.prog w = .ok (.slice (some ⟨w.heap.size, 0, none⟩) N N) (w.alloc (.cells (madeCells #[.int .u8 0] N) 5)) := by
  obtain ⟨i0, hi, hz0, hz1, hz2⟩ := info_parts infoU8
  have := run_make (P := Tryz.prog) w 22 5 i0 (.int .u8 0) Tryz.underlying22 hi hz0 .i64 .i64 N N (by omega) (Int.le_refl _) (by rw [hz2]; omega) (by omega)
  simpa [hz1, Value.cells] using this
theorem cp_part (w0 wr : World) (h N : Nat) (acc l : List UInt8) (b cap : Nat) (ty : TypeId) (hh : w0.heap.size ≤ h) (hb : Lib.Buf w0 wr h N acc) (hv : ∀ j x, l[j]? = some x → w0.cell? ⟨b, j, none⟩ = some (.int .u8 (x.toNat : Int))) (hpos : 0 < l.length) (hfit : acc.length + l.length ≤ N) :
    (Builtin.copy_ #[22, 22] ty #[.slice (some ⟨h, acc.length, none⟩) (N - acc.length) (N - acc.length), .slice (some ⟨b, 0, none⟩) l.length cap]).run Tryz.prog wr = .ok (.int .i64 (l.length : Int)) (wr.setCells h acc.length (l.map fun x => Value.int .u8 (x.toNat : Int))) ∧
      Lib.Buf w0 (wr.setCells h acc.length (l.map fun x => Value.int .u8 (x.toNat : Int))) h N (acc ++ l) := by
  obtain ⟨i0, hi, hz0, hz1, hz2⟩ := info_parts infoU8
  have hs : (Tryz.prog.info? 5).map (·.size) = some 1 := by rw [hi]; simp [hz1]
  have hr := run_copy_cells (P := Tryz.prog) wr 22 22 ty 5 h acc.length (N - acc.length) (N - acc.length) ⟨b, 0, none⟩ l.length cap (l.map fun x => Value.int .u8 (x.toNat : Int)) Tryz.underlying22 hs (by rw [List.length_map]; exact (Nat.min_eq_left (by omega)).symm)
    (fun j u hj => by
      rw [List.getElem?_map] at hj
      obtain ⟨x, hx, rfl⟩ := Option.map_eq_some_iff.1 hj
      have e : (⟨b, 0, none⟩ : Addr).add j = ⟨b, j, none⟩ := by unfold Addr.add; split <;> simp_all
      rw [e]
      exact Lib.Below.cellOf hb.below (hv j x hx) hh)
    (fun j hj => by rw [List.length_map] at hj; exact hb.there _ (by omega)) (fun j hj => by rw [List.length_map] at hj; exact hb.free _ (by omega))
    (fun u hu' => by obtain ⟨x, _, rfl⟩ := List.mem_map.1 hu'; rfl)
  rw [List.length_map] at hr
  refine ⟨hr, ?_⟩
  have hin := World.cell?_setCells_in h (l.map fun x => Value.int .u8 (x.toNat : Int)) acc.length wr (fun j hj => by rw [List.length_map] at hj; exact hb.there _ (by omega))
  have hout := World.cell?_setCells_out h (l.map fun x => Value.int .u8 (x.toNat : Int)) acc.length wr
  refine ⟨?_, ?_, ?_, ?_, by rw [List.length_append]; exact hfit⟩
  · exact Lib.below_setCells h (Nat.le_refl _) _ _ hb.below
  · intro j hj
    by_cases h1 : acc.length ≤ j ∧ j < acc.length + l.length
    · obtain ⟨d, rfl⟩ : ∃ d, j = acc.length + d := ⟨j - acc.length, by omega⟩
      rw [hin d (by rw [List.length_map]; omega)]
      rfl
    · rw [hout ⟨h, j, none⟩ (fun _ _ => by rw [List.length_map]; show j < _ ∨ _ ≤ j; omega)]
      exact hb.there j hj
  · intro j hj
    rw [World.frozen?_setCells]
    exact hb.free j hj
  · intro j x hx
    by_cases h1 : j < acc.length
    · rw [List.getElem?_append_left h1] at hx
      rw [hout ⟨h, j, none⟩ (fun _ _ => Or.inl h1)]
      exact hb.holds j x hx
    · rw [List.getElem?_append_right (by omega)] at hx
      obtain ⟨d, rfl⟩ : ∃ d, j = acc.length + d := ⟨j - acc.length, by omega⟩
      rw [Nat.add_sub_cancel_left] at hx
      have hd : d < l.length := (List.getElem?_eq_some_iff.1 hx).1
      rw [hin d (by rw [List.length_map]; exact hd)]
      simp [List.getElem_map, (List.getElem?_eq_some_iff.1 hx).2]
theorem cut_at (W : World) (h N j : Nat) (hj : j < N) : (Instr.slice 22 (.slice (some ⟨h, 0, none⟩) N N) (some (.int .i64 (j : Int))) none none).run Tryz.prog W = .ok (.slice (some ⟨h, j, none⟩) (N - j) (N - j)) W := by
  obtain ⟨i0, hi, hz0, hz1, hz2⟩ := info_parts infoU8
  have := Lib.run_slice_tailV (P := Tryz.prog) W 22 5 Tryz.underlying22 (fun w => by simp [Go.sizeOf, typeInfo, hi, hz1]) h N j (by omega)
  rw [this]
  unfold Lib.tailV
  rw [if_neg (by omega)]
set_option maxRecDepth 100000 in
set_option maxHeartbeats 2000000 in
theorem i_bsr (g : Nat) (x : List UInt8) (rp : Addr) (rc : Nat) (w : World) (hg : g < w.heap.size) (hT : RepT w g) (hR : w.cell? ⟨g, 256, none⟩ = some (.slice (some rp) 4 rc)) (hl : x.length ≤ 20) :
    Calls Tryz.prog 364 #[.pointer (some ⟨g, 0, none⟩), .string ⟨x.toArray⟩] w fun e w' => e = .returned (.string ⟨(wdL x).toArray⟩) ∧ Below w.heap.size w w' := by
  have h32 : ¬ (32 : Int) ≤ (x.length : Int) := by omega
  have HT := Lib.hid hT; clear hT
  have HL := Lib.hid (nwK_bd x)
  have kq := fun W a n c => run_neq_slice_nil_any (P := Tryz.prog) W 22 5 a n c 0 0 Tryz.underlying22
  go_enter Tryz.func364, Tryz.ntmps364
  go_wp2_with fail
  clear hR h32
  go_loop [5, 6, 10] (fun ns an i => ∃ k : Nat, k ≤ x.length ∧ i = .int .i64 k ∧ ns = .int .i64 (nwK x k) ∧ ∃ b, an = .bool b ∧ b = (x.take k).any chB) (fun _ _ i => x.length - (intOf i).toNat)
  case atStart => exact ⟨0, by omega, rfl, by rw [nwK_0], false, rfl, rfl⟩
  case round =>
    obtain ⟨k, hk, rfl, rfl, b, rfl, hb⟩ := hrel
    by_cases hlt : k < x.length
    · obtain ⟨c, hc⟩ : ∃ c, x.getD k 0 = c := ⟨_, rfl⟩
      have hgc : (⟨x.toArray⟩ : ByteArray)[k]'hlt = c := by
        rw [← hc, List.getD_eq_getElem?_getD, List.getElem?_eq_getElem hlt]; rfl
      obtain ⟨v, c0, hv1, hv2⟩ := HT.out c
      have hcl : c.toNat < 256 := c.toNat_lt
      have hst := nwK_step hlt
      have hsn := any_snoc x k hlt
      have hbd := HL.out k
      rw [hc] at hst hsn
      rw [← hb] at hsn
      have hcp := wdB_len c
      cases hch : chB c with
      | false =>
        have hsm := nwK_same hlt (by rw [hc]; exact hch)
        obtain rfl := hv1 hch
        rw [hch, Bool.or_false] at hsn
        have HS := Lib.hid hsn.symm
        have HM := Lib.hid hsm
        clear hv1 hv2 hst hsn hsm hb hc
        go_wp2_with fail
        go_round
        case rel => exact ⟨k + 1, by omega, by go_num, by rw [HM.out], b, rfl, HS.out⟩
        case measure => simp [intOf]; omega
      | true =>
        obtain ⟨bb, cap, rfl, _, _⟩ := hv2 hch
        rw [hch, Bool.or_true] at hsn
        have HS := Lib.hid hsn.symm
        clear hv1 hv2 hsn hb hc
        obtain ⟨N0, hN0⟩ : ∃ N0, nwK x k = N0 := ⟨_, rfl⟩
        obtain ⟨N1, hN1⟩ : ∃ N1, nwK x (k + 1) = N1 := ⟨_, rfl⟩
        obtain ⟨L0, hL0⟩ : ∃ L0, (wdB c).length = L0 := ⟨_, rfl⟩
        have hxl : x.length ≤ 20 := hl
        rw [hN0, hN1, hL0] at hst
        rw [hN0] at hbd ⊢
        rw [hL0] at c0 hcp
        have HN1 := Lib.hid hN1
        clear hN1 hN0 hL0
        go_wp2_with fail
        go_round
        case rel => exact ⟨k + 1, by omega, by go_num, by rw [HN1.out]; congr 1; omega, true, rfl, HS.out⟩
        case measure => simp [intOf]; omega
    · obtain rfl : k = x.length := by omega
      rw [List.take_length] at hb
      cases b with
      | false =>
        have HE := Lib.hid (wdL_same hb.symm)
        clear hb
        go_wp2_with fail
        rw [HE.out]
        go_ret
        exact ⟨rfl, Below.refl _ _⟩
      | true =>
        rw [nwK_end]
        clear hb
        have hN := (wdL_len x).2
        have HF := Lib.hid (wdL_take_len x)
        have HW := Lib.hid (wdL_snoc x)
        have HX := Lib.hid (show wdL (x.take x.length) = wdL x from by rw [List.take_length])
        obtain ⟨N, hNN⟩ : ∃ N, (wdL x).length = N := ⟨_, rfl⟩
        rw [hNN] at hN HF ⊢
        have HNN := Lib.hid hNN
        clear hNN
        have km := mk_bytes w N (by omega)
        go_wp2_with fail
        clear km
        go_loopw [13, 14] (fun j i wr => ∃ k : Nat, k ≤ x.length ∧ i = .int .i64 k ∧ j = .int .i64 ((wdL (x.take k)).length : Nat) ∧ Lib.Buf w wr w.heap.size N (wdL (x.take k))) (fun _ i _ => x.length - (intOf i).toNat)
        case atStart => exact ⟨0, by omega, rfl, rfl, Lib.Buf.start w _ _ N 0 (by rw [size_madeCells]; exact Nat.le_refl _)⟩
        case round =>
          obtain ⟨k, hk, rfl, rfl, hB⟩ := hrel
          by_cases hlt : k < x.length
          · obtain ⟨c, hc⟩ : ∃ c, x.getD k 0 = c := ⟨_, rfl⟩
            have hgc : (⟨x.toArray⟩ : ByteArray)[k]'hlt = c := by
              rw [← hc, List.getD_eq_getElem?_getD, List.getElem?_eq_getElem hlt]; rfl
            obtain ⟨v, c0, hv1, hv2⟩ := HT.out c
            have hcl : c.toNat < 256 := c.toNat_lt
            have hfit := HF.out k hlt
            have hsn := HW.out k hlt
            rw [hc] at hfit hsn
            have hcp := wdB_len c
            replace c0 := Lib.Below.cellOf hB.below c0 (Nat.le_refl _)
            have hgw := Nat.lt_of_lt_of_le hg hB.below.size
            obtain ⟨acc, hacc⟩ : ∃ acc, wdL (x.take k) = acc := ⟨_, rfl⟩
            rw [hacc] at hfit hsn hB ⊢
            clear hacc hc
            cases hch : chB c with
            | false =>
              obtain rfl := hv1 hch
              rw [wdB_same hch] at hsn
              have hlt2 : acc.length < N := by omega
              obtain ⟨u, hu⟩ := Option.isSome_iff_exists.1 (hB.there acc.length hlt2)
              have hfz := hB.free acc.length hlt2
              have hput := put_byte hB c hlt2
              have HS := Lib.hid hsn
              have HP := Lib.hid hput
              have hs2 : ((wdL (x.take (k + 1))).length : Int) = (acc.length : Int) + 1 := by rw [hsn]; simp
              have HS2 := Lib.hid hs2
              clear hv1 hv2 hsn hput hB hs2
              go_wp2_with fail
              go_roundw
              case rel => exact ⟨k + 1, by omega, by go_num, by rw [HS2.out], by rw [HS.out]; exact HP.out⟩
              case measure => simp [intOf]; omega
            | true =>
              obtain ⟨bb, cap, rfl, _, hbb⟩ := hv2 hch
              have ks := fun W => cut_at W w.heap.size N acc.length (by omega)
              have kc := cp_part w wr.drew w.heap.size N acc (wdB c) bb cap 3 (Nat.le_refl _) (buf_drew hB) hbb (by omega) hfit
              have HS := Lib.hid hsn
              have KB := Lib.hid kc.2
              have kc1 := kc.1
              have hs2 : ((wdL (x.take (k + 1))).length : Int) = (acc.length : Int) + ((wdB c).length : Int) := by rw [hsn]; simp
              have HS2 := Lib.hid hs2
              have HB := Lib.hid hB
              clear hv1 hv2 hsn kc hs2 hbb hB
              obtain ⟨ml, hml⟩ : ∃ ml, ((wdB c).map fun x => Value.int .u8 (x.toNat : Int)) = ml := ⟨_, rfl⟩
              rw [hml] at kc1 KB
              obtain ⟨L0, hL0⟩ : ∃ L0, (wdB c).length = L0 := ⟨_, rfl⟩
              rw [hL0] at kc1 hfit hcp c0 HS2
              clear hml hL0 HB
              go_wp2_with fail
              go_region
              go_wp2_with fail
              go_roundw
              case rel => exact ⟨k + 1, by omega, by go_num, by rw [HS2.out], by rw [HS.out]; exact KB.out⟩
              case measure => simp [intOf]; omega
          · obtain rfl : k = x.length := by omega
            rw [HX.out] at hB
            have kb := buf_back hB HNN.out N
            rw [HX.out]
            go_wp2_with fail
            go_ret
            exact ⟨rfl, hB.below⟩
end Go.Proofs.YtmpgokijlikddaaGreatDoor
