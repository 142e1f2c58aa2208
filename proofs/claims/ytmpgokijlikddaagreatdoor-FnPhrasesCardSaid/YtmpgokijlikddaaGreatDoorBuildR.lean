/- The building of the replacer's table, at the eight texts of normalWord. Condition: how they lie. -/
import Derived.Test.YtmpgokijlikddaaGreatDoorNewR
import Derived.Test.YtmpgokijlikddaaGreatDoorRpl
import Derived.Test.YtmpgokijlikddaaGreatDoorBRow
import Derived.Test.YtmpgokijlikddaaGreatDoorTabR
import Derived.Deep.Cut
import Derived.Lib.SliceRun
import Derived.Laws.Tables
namespace Go.Proofs.YtmpgokijlikddaaGreatDoor
open Go.RowKit
theorem mk_strs (w : World) : ∃ w1, (Instr.makeSlice 59 (.int .i64 0) (.int .i64 4)).run Tryz.prog w = .ok (.slice (some ⟨w.heap.size, 0, none⟩) 0 4) w1 ∧ OwnS w1 w.heap.size (.slice (some ⟨w.heap.size, 0, none⟩) 0 4) [] ∧ w.grownBy w1 none := by
  obtain ⟨i0, hi, hz0, hz1, hz2⟩ := info_parts infoS
  exact run_make_own (P := Tryz.prog) (w := w) w.heap.size 59 9 i0 (.string ByteArray.empty) 1 Tryz.underlying59 hi hz0 hz1 .i64 .i64 4 (by rw [hz2]; decide) (by decide) (Nat.le_refl _)
/-- a table that is built, in block g -/
def BuiltR (w : World) (g : Nat) : Prop := g < w.heap.size ∧ RepT w g ∧ ∃ rp rc, w.cell? ⟨g, 256, none⟩ = some (.slice (some rp) 4 rc)
def rp4 : List (List UInt8) := [[119], [121], [106], [118]]
def dn4 : Nat → UInt8 → Bool
  | 0 => fun _ => false
  | 1 => fun c => false || decide (c = 119)
  | 2 => fun c => (false || decide (c = 119)) || decide (c = 121)
  | 3 => fun c => ((false || decide (c = 119)) || decide (c = 121)) || decide (c = 106)
  | _ => fun c => (((false || decide (c = 119)) || decide (c = 121)) || decide (c = 106)) || decide (c = 118)
theorem dn4_all : dn4 4 = chB := by
  funext c
  simp only [dn4, chB]
  cases decide (c = 118) <;> cases decide (c = 106) <;> cases decide (c = 121) <;> cases decide (c = 119) <;> rfl
theorem one_str (w : World) (g : Nat) {o : Int} {x : UInt8} (hB : Blk w g 5 #[.int .u8 o]) (hx : o = (x.toNat : Int) := by rfl) :
    (convert 22 9 (.slice (some ⟨g, 0, none⟩) 1 1)).run Tryz.prog w = .ok (.string ⟨#[x]⟩) w := by
  subst hx
  refine run_convert_bytes_back w 22 9 5 ⟨g, 0, none⟩ 1 [x] Tryz.underlying22 Tryz.underlying5 Tryz.underlying9 fun j hj => ?_
  obtain rfl : j = 0 := by simp at hj; exact hj
  rw [addr_add]
  exact hB.c0
theorem row0_one (a n c : Nat) : ∀ v ∈ (row0 (.slice (some ⟨a, 0, none⟩) n c)).toList, v.oneCell' = true := by
  intro v hv
  rw [row0, List.toList_toArray, List.mem_append] at hv
  rcases hv with hv | hv
  · rw [List.mem_replicate] at hv
    rw [hv.2]; rfl
  · rw [List.mem_singleton] at hv
    rw [hv]; rfl
set_option maxRecDepth 100000 in
set_option maxHeartbeats 2000000 in
theorem i_rbuild (b : Nat) (w : World) (v : Value) (hb : w.cell? ⟨b, 4, none⟩ = some v) (hv : OwnS w 0 v rep8) : Calls Tryz.prog 295 #[.pointer (some ⟨b, 0, none⟩)] w fun e w' => ∃ gt, e = .returned (.iface 290 (.pointer (some ⟨gt, 0, none⟩))) ∧ BuiltR w' gt ∧ w.heap.size ≤ gt ∧ Below w.heap.size w w' := by
  obtain ⟨g, c, rfl, -, hg, hcc, -, hcell, -⟩ := hv.openedC (by decide)
  have C : ∀ j, j < 8 → w.cell? ⟨g, j, none⟩ = some (.string ⟨(rep8.getD j []).toArray⟩) := hcell
  have x0 := C 0 (by omega)
  have x1 := C 1 (by omega)
  have x2 := C 2 (by omega)
  have x3 := C 3 (by omega)
  have x4 := C 4 (by omega)
  have x5 := C 5 (by omega)
  have x6 := C 6 (by omega)
  have x7 := C 7 (by omega)
  simp only [rep8, List.getD_cons_zero, List.getD_cons_succ] at x0 x1 x2 x3 x4 x5 x6 x7
  have h8 : (rep8.length : Int) = 8 := rfl
  have h8' : rep8.length = 8 := rfl
  rw [h8'] at hb
  clear C hcell hv h8 h8'
  go_enter Tryz.func295, Tryz.ntmps295
  go_wp2_with fail
  go_loop [4, 5] (fun q i => (q = .bool true ∧ (i = .int .i64 0 ∨ i = .int .i64 2 ∨ i = .int .i64 4 ∨ i = .int .i64 6)) ∨ (q = .bool false ∧ i = .int .i64 8)) (fun _ i => 8 - (intOf i).toNat)
  case atStart => exact .inl ⟨rfl, .inl rfl⟩
  case round =>
    rcases hrel with ⟨rfl, rfl | rfl | rfl | rfl⟩ | ⟨rfl, rfl⟩
    · go_wp2_with fail
      go_round
      case rel => exact .inl ⟨rfl, .inr (.inl rfl)⟩
      case measure => simp [intOf]
    · go_wp2_with fail
      go_round
      case rel => exact .inl ⟨rfl, .inr (.inr (.inl rfl))⟩
      case measure => simp [intOf]
    · go_wp2_with fail
      go_round
      case rel => exact .inl ⟨rfl, .inr (.inr (.inr rfl))⟩
      case measure => simp [intOf]
    · go_wp2_with fail
      go_round
      case rel => exact .inr ⟨rfl, rfl⟩
      case measure => simp [intOf]
    · go_upto_region 26 with fail
      obtain ⟨w1, hms, hown, hgr⟩ := mk_strs w
      have hst : (storeCells ⟨w1.heap.size, 0, none⟩ (Tryz.zeroCells289.toList.set 256 (.slice (some ⟨w.heap.size, 0, none⟩) 0 4))).run Tryz.prog (w1.alloc (.cells Tryz.zeroCells289 289)) = .ok () ((w1.alloc (.cells Tryz.zeroCells289 289)).setRow w1.heap.size (row0 (.slice (some ⟨w.heap.size, 0, none⟩) 0 4))) := by
        rw [zero_list]
        have := run_storeCells_from (P := Tryz.prog) w1.heap.size 289 (row0 (.slice (some ⟨w.heap.size, 0, none⟩) 0 4)).toList 0 Tryz.zeroCells289 (w1.alloc (.cells Tryz.zeroCells289 289)) (heap_alloc_new w1 _) (by kernel_rfl) (row0_one _ _ _)
        rw [this]
        congr 2
      have hB0 : Blk ((w1.alloc (.cells Tryz.zeroCells289 289)).setRow w1.heap.size (row0 (.slice (some ⟨w.heap.size, 0, none⟩) 0 4))) w1.heap.size 289 (row0 (.slice (some ⟨w.heap.size, 0, none⟩) 0 4)) := setRow_heap _ _ _ _ _ _ (heap_alloc_new w1 _)
      have hW1 : Below w.heap.size w w1 := ⟨hgr.os, hgr.tape, hgr.output, hgr.size, fun i hi => hgr.block i hi (by simp)⟩
      have hL0 : Below w.heap.size w ((w1.alloc (.cells Tryz.zeroCells289 289)).setRow w1.heap.size (row0 (.slice (some ⟨w.heap.size, 0, none⟩) 0 4))) := by
        have h1 := below_more hW1 hW1.size (.cells Tryz.zeroCells289 289)
        refine ⟨h1.os, h1.tape, h1.output, by rw [setRow_size]; exact h1.size, fun i hi => ?_⟩
        rw [setRow_other _ _ _ _ (by have := hW1.size; omega)]
        exact h1.block i hi
      have hO0 : OwnS ((w1.alloc (.cells Tryz.zeroCells289 289)).setRow w1.heap.size (row0 (.slice (some ⟨w.heap.size, 0, none⟩) 0 4))) w.heap.size (.slice (some ⟨w.heap.size, 0, none⟩) 0 4) [] := by
        have h2 : w1.grownBy ((w1.alloc (.cells Tryz.zeroCells289 289)).setRow w1.heap.size (row0 (.slice (some ⟨w.heap.size, 0, none⟩) 0 4))) none := by
          have h1 := below_alloc w1 (.cells Tryz.zeroCells289 289)
          refine ⟨h1.os, h1.tape, h1.output, by rw [setRow_size]; exact h1.size, fun i hi _ => ?_⟩
          rw [setRow_other _ _ _ _ (by omega)]
          exact h1.block i hi
        exact hown.kept h2 (.inr (by simp [Value.ownBlock]))
      obtain ⟨w2, hw2⟩ : ∃ w2, (w1.alloc (.cells Tryz.zeroCells289 289)).setRow w1.heap.size (row0 (.slice (some ⟨w.heap.size, 0, none⟩) 0 4)) = w2 := ⟨_, rfl⟩
      rw [hw2] at hst hB0 hL0 hO0
      have T0 := row0_ok w2 (.slice (some ⟨w.heap.size, 0, none⟩) 0 4)
      obtain ⟨cs0, hcs0⟩ : ∃ cs, row0 (.slice (some ⟨w.heap.size, 0, none⟩) 0 4) = cs := ⟨_, rfl⟩
      have z0 := row0_size (.slice (some ⟨w.heap.size, 0, none⟩) 0 4)
      have l0 := row0_last (.slice (some ⟨w.heap.size, 0, none⟩) 0 4)
      rw [hcs0] at hB0 T0 z0 l0
      have HWG := Lib.hid hW1.size
      clear hw2 hcs0 hown hgr hW1 hb hcc
      have X0 := Lib.hid x0
      have X1 := Lib.hid x1
      have X2 := Lib.hid x2
      have X3 := Lib.hid x3
      have X4 := Lib.hid x4
      have X5 := Lib.hid x5
      have X6 := Lib.hid x6
      have X7 := Lib.hid x7
      clear x0 x1 x2 x3 x4 x5 x6 x7
      go_wp2_with fail
      go_loopw [12, 13, 14] (fun i _ _ wr => ∃ (m : Nat) (cs : Array Value) (v : Value), m ≤ 4 ∧ i = .int .i64 (6 - 2 * (m : Int)) ∧ Blk wr w1.heap.size 289 cs ∧ cs.size = 257 ∧ cs[256]? = some v ∧ OwnS wr w.heap.size v (rp4.take m) ∧ TabOk wr cs (dn4 m) ∧ Below w.heap.size w wr) (fun i _ _ _ => (intOf i + 2).toNat)
      case atStart => exact ⟨0, cs0, _, by omega, rfl, hB0, z0, l0, hO0, T0, hL0⟩
      case round =>
        clear hB0 z0 l0 hO0 T0 hL0 hst hms
        obtain ⟨m, cs, v, hm, rfl, hB, hz, hl, hO, hT, hL⟩ := hrel
        obtain ⟨-, A1, cp, rfl, -⟩ := hO.opened
        have hgl := hB.lt
        have hwl := hL.size
        have hwg : w.heap.size ≤ w1.heap.size := HWG.out
        have hc256 := (hB.cell 256).trans hl
        match m, hm with
        | 0, _ =>
          have x0 := (hL.cell (p := ⟨g, 6, none⟩) hg).trans X6.out
          have x1 := (hL.cell (p := ⟨g, 7, none⟩) hg).trans X7.out
          obtain ⟨vo, ho1, ho2, -⟩ := hT 119
          replace ho1 : cs[119]? = some vo := ho1
          have hco := (hB.cell 119).trans ho1
          obtain rfl := ho2 (by decide)
          have hco' : wr.cell? ⟨w1.heap.size, 119, none⟩ = some (.slice none 0 0) := hco
          have kc := fun W => run_bytes_of_string (P := Tryz.prog) W 9 22 5 ⟨#[117, 117]⟩ Tryz.underlying9 Tryz.underlying22 Tryz.underlying5
          have hi0 : ((⟨#[119]⟩ : ByteArray)[0]'(by decide)).toNat = 119 := rfl
          have ks := one_str (x := 119) (wr.alloc (.cells #[.int .u8 119] 5)) wr.heap.size (Blk.new wr _ _)
          have kq := fun W => Lib.run_eql_slice_nil (P := Tryz.prog) W 22 5 none 0 0 0 0 Tryz.underlying22
          have ho1' := ho1
          clear hco ho1 ho2
          go_wp2_with (at_builtin; refine wpList_appS rfl _ _ rfl _ w.heap.size _ (rp4.take 0) [119] _ rfl rfl (hO.alloc _) (by simp; rfl) (by decide) (by simp; omega) ?_; intro v2 w9 hown2 hg2; obtain ⟨-, A2, cp2, rfl, -⟩ := hown2.opened; have hB9 := (hB.alloc _).grown hg2 (own_blk_ne hO hB (by decide)).symm; have hL9 := (hO.alloc _).below_grown (below_more hL hwl _) hg2 (by simp; omega); have hT9 := hT.keep ((Keep8.alloc _ _).trans (Keep8.grown (hO.alloc _) hg2)); have hg9 := hB9.lt; have d256 := (hB9.cell 256).trans hl; have do0 := (hB9.cell 119).trans ho1'; have f256 := hB9.frozen 256; have fo0 := hB9.frozen 119)
          go_roundw
          case rel =>
            refine ⟨1, ?_⟩
            obtain ⟨cs2, key⟩ := tab_round (dn' := dn4 1) hB9 hz hT9 (show OwnS w9 w.heap.size (.slice A2 1 cp2) (rp4.take 1) from hown2) hL9 hwg 119 [117, 117] rfl 119 2 rfl rfl rfl _ _ _
            exact ⟨cs2, _, by omega, by go_num, key⟩
          case measure => simp [intOf]
        | 1, _ =>
          have x0 := (hL.cell (p := ⟨g, 4, none⟩) hg).trans X4.out
          have x1 := (hL.cell (p := ⟨g, 5, none⟩) hg).trans X5.out
          obtain ⟨vo, ho1, ho2, -⟩ := hT 121
          replace ho1 : cs[121]? = some vo := ho1
          have hco := (hB.cell 121).trans ho1
          obtain rfl := ho2 (by decide)
          have hco' : wr.cell? ⟨w1.heap.size, 121, none⟩ = some (.slice none 0 0) := hco
          have kc := fun W => run_bytes_of_string (P := Tryz.prog) W 9 22 5 ⟨#[105]⟩ Tryz.underlying9 Tryz.underlying22 Tryz.underlying5
          have hi0 : ((⟨#[121]⟩ : ByteArray)[0]'(by decide)).toNat = 121 := rfl
          have ks := one_str (x := 121) (wr.alloc (.cells #[.int .u8 121] 5)) wr.heap.size (Blk.new wr _ _)
          have kq := fun W => Lib.run_eql_slice_nil (P := Tryz.prog) W 22 5 none 0 0 0 0 Tryz.underlying22
          have ho1' := ho1
          clear hco ho1 ho2
          go_wp2_with (at_builtin; refine wpList_appS rfl _ _ rfl _ w.heap.size _ (rp4.take 1) [121] _ rfl rfl (hO.alloc _) (by simp; rfl) (by decide) (by simp; omega) ?_; intro v2 w9 hown2 hg2; obtain ⟨-, A2, cp2, rfl, -⟩ := hown2.opened; have hB9 := (hB.alloc _).grown hg2 (own_blk_ne hO hB (by decide)).symm; have hL9 := (hO.alloc _).below_grown (below_more hL hwl _) hg2 (by simp; omega); have hT9 := hT.keep ((Keep8.alloc _ _).trans (Keep8.grown (hO.alloc _) hg2)); have hg9 := hB9.lt; have d256 := (hB9.cell 256).trans hl; have do0 := (hB9.cell 121).trans ho1'; have f256 := hB9.frozen 256; have fo0 := hB9.frozen 121)
          go_roundw
          case rel =>
            refine ⟨2, ?_⟩
            obtain ⟨cs2, key⟩ := tab_round (dn' := dn4 2) hB9 hz hT9 (show OwnS w9 w.heap.size (.slice A2 2 cp2) (rp4.take 2) from hown2) hL9 hwg 121 [105] rfl 121 1 rfl rfl rfl _ _ _
            exact ⟨cs2, _, by omega, by go_num, key⟩
          case measure => simp [intOf]
        | 2, _ =>
          have x0 := (hL.cell (p := ⟨g, 2, none⟩) hg).trans X2.out
          have x1 := (hL.cell (p := ⟨g, 3, none⟩) hg).trans X3.out
          obtain ⟨vo, ho1, ho2, -⟩ := hT 106
          replace ho1 : cs[106]? = some vo := ho1
          have hco := (hB.cell 106).trans ho1
          obtain rfl := ho2 (by decide)
          have hco' : wr.cell? ⟨w1.heap.size, 106, none⟩ = some (.slice none 0 0) := hco
          have kc := fun W => run_bytes_of_string (P := Tryz.prog) W 9 22 5 ⟨#[105]⟩ Tryz.underlying9 Tryz.underlying22 Tryz.underlying5
          have hi0 : ((⟨#[106]⟩ : ByteArray)[0]'(by decide)).toNat = 106 := rfl
          have ks := one_str (x := 106) (wr.alloc (.cells #[.int .u8 106] 5)) wr.heap.size (Blk.new wr _ _)
          have kq := fun W => Lib.run_eql_slice_nil (P := Tryz.prog) W 22 5 none 0 0 0 0 Tryz.underlying22
          have ho1' := ho1
          clear hco ho1 ho2
          go_wp2_with (at_builtin; refine wpList_appS rfl _ _ rfl _ w.heap.size _ (rp4.take 2) [106] _ rfl rfl (hO.alloc _) (by simp; rfl) (by decide) (by simp; omega) ?_; intro v2 w9 hown2 hg2; obtain ⟨-, A2, cp2, rfl, -⟩ := hown2.opened; have hB9 := (hB.alloc _).grown hg2 (own_blk_ne hO hB (by decide)).symm; have hL9 := (hO.alloc _).below_grown (below_more hL hwl _) hg2 (by simp; omega); have hT9 := hT.keep ((Keep8.alloc _ _).trans (Keep8.grown (hO.alloc _) hg2)); have hg9 := hB9.lt; have d256 := (hB9.cell 256).trans hl; have do0 := (hB9.cell 106).trans ho1'; have f256 := hB9.frozen 256; have fo0 := hB9.frozen 106)
          go_roundw
          case rel =>
            refine ⟨3, ?_⟩
            obtain ⟨cs2, key⟩ := tab_round (dn' := dn4 3) hB9 hz hT9 (show OwnS w9 w.heap.size (.slice A2 3 cp2) (rp4.take 3) from hown2) hL9 hwg 106 [105] rfl 106 1 rfl rfl rfl _ _ _
            exact ⟨cs2, _, by omega, by go_num, key⟩
          case measure => simp [intOf]
        | 3, _ =>
          have x0 := (hL.cell (p := ⟨g, 0, none⟩) hg).trans X0.out
          have x1 := (hL.cell (p := ⟨g, 1, none⟩) hg).trans X1.out
          obtain ⟨vo, ho1, ho2, -⟩ := hT 118
          replace ho1 : cs[118]? = some vo := ho1
          have hco := (hB.cell 118).trans ho1
          obtain rfl := ho2 (by decide)
          have hco' : wr.cell? ⟨w1.heap.size, 118, none⟩ = some (.slice none 0 0) := hco
          have kc := fun W => run_bytes_of_string (P := Tryz.prog) W 9 22 5 ⟨#[117]⟩ Tryz.underlying9 Tryz.underlying22 Tryz.underlying5
          have hi0 : ((⟨#[118]⟩ : ByteArray)[0]'(by decide)).toNat = 118 := rfl
          have ks := one_str (x := 118) (wr.alloc (.cells #[.int .u8 118] 5)) wr.heap.size (Blk.new wr _ _)
          have kq := fun W => Lib.run_eql_slice_nil (P := Tryz.prog) W 22 5 none 0 0 0 0 Tryz.underlying22
          have ho1' := ho1
          clear hco ho1 ho2
          go_wp2_with (at_builtin; refine wpList_appS rfl _ _ rfl _ w.heap.size _ (rp4.take 3) [118] _ rfl rfl (hO.alloc _) (by simp; rfl) (by decide) (by simp; omega) ?_; intro v2 w9 hown2 hg2; obtain ⟨-, A2, cp2, rfl, -⟩ := hown2.opened; have hB9 := (hB.alloc _).grown hg2 (own_blk_ne hO hB (by decide)).symm; have hL9 := (hO.alloc _).below_grown (below_more hL hwl _) hg2 (by simp; omega); have hT9 := hT.keep ((Keep8.alloc _ _).trans (Keep8.grown (hO.alloc _) hg2)); have hg9 := hB9.lt; have d256 := (hB9.cell 256).trans hl; have do0 := (hB9.cell 118).trans ho1'; have f256 := hB9.frozen 256; have fo0 := hB9.frozen 118)
          go_roundw
          case rel =>
            refine ⟨4, ?_⟩
            obtain ⟨cs2, key⟩ := tab_round (dn' := dn4 4) hB9 hz hT9 (show OwnS w9 w.heap.size (.slice A2 4 cp2) (rp4.take 4) from hown2) hL9 hwg 118 [117] rfl 118 1 rfl rfl rfl _ _ _
            exact ⟨cs2, _, by omega, by go_num, key⟩
          case measure => simp [intOf]
        | 4, _ =>
          obtain ⟨g4, c4, hv4, -⟩ := hO.openedC (by decide)
          injection hv4 with hv1 hv2 hv3
          subst hv1
          have hR4 := (show TabOk wr cs chB from dn4_all ▸ hT).rep hB
          go_wp2_with fail
          go_ret
          exact ⟨_, rfl, ⟨hgl, hR4, _, _, hc256⟩, hwg, hL⟩
        | m + 5, h => exact absurd h (by omega)
end Go.Proofs.YtmpgokijlikddaaGreatDoor
