/- (*Replacer).Replace at the eight texts of normalWord. Conditions: how the replacer lies; a text of at most 20 letters. -/
import Derived.Test.YtmpgokijlikddaaGreatDoorBuildR
import Derived.Test.YtmpgokijlikddaaGreatDoorOnce
namespace Go.Proofs.YtmpgokijlikddaaGreatDoor
open Go.RowKit
theorem grown_cell {w w' : World} {b i j : Nat} (k : w.grownBy w' (some b)) (hi : i < w.heap.size) (hne : i ≠ b) : w'.cell? ⟨i, j, none⟩ = w.cell? ⟨i, j, none⟩ := by
  have := k.block i hi (fun e => hne (by injection e))
  simp only [World.cell?, this]
theorem BuiltR.far {w w' : World} {g b : Nat} {n : Int} (h : BuiltR w g) (hb : w.cell? ⟨b, 0, none⟩ = some (.int .u32 n)) (hg : g ≠ b) (k : w.grownBy w' (some b)) : BuiltR w' g := by
  obtain ⟨h0, hT, rp, rc, h2⟩ := h
  refine ⟨Nat.lt_of_lt_of_le h0 k.size, fun c => ?_, rp, rc, (grown_cell k h0 hg).trans h2⟩
  obtain ⟨v, h3, h4, h5⟩ := hT c
  refine ⟨v, (grown_cell k h0 hg).trans h3, h4, fun hc => ?_⟩
  obtain ⟨bb, cap, e, hlt, h6⟩ := h5 hc
  have hbb : bb ≠ b := by
    rintro rfl
    obtain ⟨x, hx⟩ : ∃ x, (wdB c)[0]? = some x := ⟨_, List.getElem?_eq_getElem (by have := wdB_len c; omega)⟩
    have := h6 0 x hx
    rw [hb] at this
    injection this with this
    injection this with this
    cases this
  exact ⟨bb, cap, e, Nat.lt_of_lt_of_le hlt k.size, fun j x hx => (grown_cell k hlt hbb).trans (h6 j x hx)⟩
theorem grown_set (w : World) (b i : Nat) (u : Value) : w.grownBy (w.setCell ⟨b, i, none⟩ u) (some b) := ⟨rfl, rfl, rfl, by simp, fun j _ hne => Below.heap_setCell w ⟨b, i, none⟩ u j (fun e => hne (by rw [e]))⟩
set_option maxRecDepth 100000 in
theorem i_bonce (b base : Nat) (w : World) (v : Value) (hB : Blk w b 237 #[.int .u32 0, .int .i32 1, .int .u32 0, .nilIface, v]) (hv : OwnS w base v rep8) : Calls Tryz.prog 267 #[.pointer (some ⟨b, 0, none⟩)] w fun e w' => e = .returned (.tuple #[]) ∧ ∃ gt, Blk w' b 237 #[.int .u32 0, .int .i32 1, .int .u32 0, .iface 290 (.pointer (some ⟨gt, 0, none⟩)), .slice none 0 0] ∧ BuiltR w' gt ∧ gt ≠ b ∧ w.grownBy w' (some b) := by
  have CON := Lib.hid (i_rbuild b w v (hB.cell 4) (hv.mono (Nat.zero_le _)))
  have hlt := hB.lt
  clear hv
  go_enter Tryz.func267, Tryz.ntmps267
  go_wp2_with (first | (go_at_call 295; refine CON.out.mono ?_; rintro e w1 ⟨gt, rfl, hT, hge, hL⟩; have B1 := hB.below hL hlt; have k3 := B1.cell 3; have k4 := B1.cell 4; have f3 := B1.frozen 3; have f4 := B1.frozen 4; have l1 := B1.lt))
  go_end0
  have hgb : gt ≠ b := by omega
  have G1 := grown_of_below hL (some b)
  have B2 := B1.set_ 3 (.iface 290 (.pointer (some ⟨gt, 0, none⟩)))
  have G2 := grown_set w1 b 3 (.iface 290 (.pointer (some ⟨gt, 0, none⟩)))
  have T2 := hT.far B1.c0 hgb G2
  have B3 := B2.set_ 4 (.slice none 0 0)
  have G3 := grown_set (w1.setCell ⟨b, 3, none⟩ (.iface 290 (.pointer (some ⟨gt, 0, none⟩)))) b 4 (.slice none 0 0)
  have T3 := T2.far B2.c0 hgb G3
  exact ⟨rfl, gt, B3, T3, hgb, grown_trans G1 (grown_trans G2 G3)⟩
theorem done_facts {w w2 : World} {b : Nat} (h : ∃ w3, (∃ gt, Blk w3 b 237 #[.int .u32 0, .int .i32 1, .int .u32 0, .iface 290 (.pointer (some ⟨gt, 0, none⟩)), .slice none 0 0] ∧ BuiltR w3 gt ∧ gt ≠ b ∧ (w.setCell ⟨b, 1, none⟩ (.int .i32 1)).grownBy w3 (some b)) ∧ w2 = (w3.drew.setCell ⟨b, 0, none⟩ (.int .u32 1)).setCell ⟨b, 0 + 1, none⟩ (.int .i32 0)) :
    ∃ gt, Blk w2 b 237 #[.int .u32 1, .int .i32 0, .int .u32 0, .iface 290 (.pointer (some ⟨gt, 0, none⟩)), .slice none 0 0] ∧ BuiltR w2 gt ∧ w.grownBy w2 (some b) := by
  obtain ⟨w3, ⟨gt, k1, k2, k3, k4⟩, rfl⟩ := h
  have k2' : BuiltR w3.drew gt := k2
  have T1 := k2'.far (w' := w3.drew.setCell ⟨b, 0, none⟩ (.int .u32 1)) k1.drew.c0 k3 (grown_set _ _ _ _)
  have B2 := k1.drew.set_ 0 (.int .u32 1)
  have T2 := T1.far (w' := (w3.drew.setCell ⟨b, 0, none⟩ (.int .u32 1)).setCell ⟨b, 1, none⟩ (.int .i32 0)) B2.c0 k3 (grown_set _ _ _ _)
  have G1 : w3.grownBy w3.drew (some b) := ⟨rfl, rfl, rfl, Nat.le_refl _, fun _ _ _ => rfl⟩
  exact ⟨gt, B2.set_ 1 (.int .i32 0), T2, grown_trans (grown_set w b 1 _) (grown_trans k4 (grown_trans G1 (grown_trans (grown_set w3.drew b 0 _) (grown_set (w3.drew.setCell ⟨b, 0, none⟩ (.int .u32 1)) b 1 _))))⟩
set_option maxRecDepth 100000 in
set_option maxHeartbeats 1000000 in
theorem i_replace (b base : Nat) (x : List UInt8) (w : World) (hx : x.length ≤ 20) (h : IsRep w b base) : Calls Tryz.prog 224 #[.pointer (some ⟨b, 0, none⟩), .string ⟨x.toArray⟩] w fun e w' => e = .returned (.string ⟨(wdL x).toArray⟩) ∧ w.grownBy w' (some b) := by
  obtain ⟨v, hB, hv⟩ := h
  have B1 := hB.set_ 1 (.int .i32 1)
  have hne : v.ownBlock = none ∨ v.ownBlock ≠ some b := .inr (own_blk_ne hv hB (by decide))
  have C1 := i_bonce b base (w.setCell ⟨b, 1, none⟩ (.int .i32 1)) v B1 (hv.kept (grown_set w b 1 _) hne)
  have CON := Lib.hid (o_do b 0 (.pointer (some ⟨b, 0, none⟩)) (fun w' => ∃ gt, Blk w' b 237 #[.int .u32 0, .int .i32 1, .int .u32 0, .iface 290 (.pointer (some ⟨gt, 0, none⟩)), .slice none 0 0] ∧ BuiltR w' gt ∧ gt ≠ b ∧ (w.setCell ⟨b, 1, none⟩ (.int .i32 1)).grownBy w' (some b)) w hB.c0 hB.c1 (hB.frozen 1) C1 (fun w' ⟨gt, k, _⟩ => ⟨k.c0, k.c1, k.frozen 0, k.frozen 1⟩))
  clear C1 hv B1 hne
  go_enter Tryz.func224, Tryz.ntmps224
  go_wp2_with (first | (go_at_call 266; refine CON.out.mono ?_; rintro e w2 ⟨rfl, hR⟩; obtain ⟨gt, B4, T4, G4⟩ := done_facts hR; have c3 := B4.cell 3))
  obtain ⟨t0, t1, rp, rc, t2⟩ := T4
  refine (i_bsr gt x rp rc _ t0 t1 t2 hx).mono ?_
  rintro e w3 ⟨rfl, hb⟩
  go_wp2_with fail
  go_ret
  exact ⟨rfl, grown_trans G4 (grown_of_below hb (some b))⟩
end Go.Proofs.YtmpgokijlikddaaGreatDoor
