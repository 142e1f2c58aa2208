/- Arguments that are slices, opened: bytes, strings, reigns. No condition. -/
import Derived.Test.YtmpgokijlikddaaGreatDoorKit
import Derived.SliceStrings
import Derived.Deep.Slices
import Derived.Deep.Fields
import Derived.Carry
import Derived.OpenShut
import Derived.Lib.SmallJoins
namespace Go.Proofs.YtmpgokijlikddaaGreatDoor
open Go.RowKit Go.ChangeShapes Go.WideShapes Go.Deep Go.Joins
section
variable {H : Type} {enc : TypeId × Value → H} {P : Program}
/-- bytes that lie in a row -/
def InB (w : World) (p : Option Addr) (n : Nat) (xs : List Int) : Prop :=
  0 < n → ∃ b o, p = some ⟨b, o, none⟩ ∧ b < w.heap.size ∧ ∀ i, i < n → w.cell? ⟨b, o + i, none⟩ = some (.int .u8 (xs.getD i 0))
theorem InB.below {w w' : World} {p : Option Addr} {n : Nat} {xs : List Int} (h : InB w p n xs) (hb : Below w.heap.size w w') : InB w' p n xs := fun hn => by
  obtain ⟨b, o, e, hlt, hc⟩ := h hn
  exact ⟨b, o, e, Nat.lt_of_lt_of_le hlt hb.size, fun i hi => (hb.cell (p := ⟨b, o + i, none⟩) hlt).trans (hc i hi)⟩
/-- texts that lie in a row -/
def InS (w : World) (p : Option Addr) (n : Nat) (xs : List (List UInt8)) : Prop :=
  0 < n → ∃ b o, p = some ⟨b, o, none⟩ ∧ b < w.heap.size ∧ ∀ i, i < n → w.cell? ⟨b, o + i, none⟩ = some (.string ⟨(xs.getD i []).toArray⟩)
theorem InS.below {w w' : World} {p : Option Addr} {n : Nat} {xs : List (List UInt8)} (h : InS w p n xs) (hb : Below w.heap.size w w') : InS w' p n xs := fun hn => by
  obtain ⟨b, o, e, hlt, hc⟩ := h hn
  exact ⟨b, o, e, Nat.lt_of_lt_of_le hlt hb.size, fun i hi => (hb.cell (p := ⟨b, o + i, none⟩) hlt).trans (hc i hi)⟩
theorem addr_plain {w : World} {a : Addr} {v : Value} (h : w.cell? a = some v) : a.spot = none := World.cell?_spot h
theorem lt_of_cell {w : World} {b o : Nat} {v : Value} (h : w.cell? ⟨b, o, none⟩ = some v) : b < w.heap.size := World.block_lt_of_cell? _ _ h
theorem opened_code {t e : TypeId} (ht : P.underlying t = some (.slice e)) (he : P.underlying e = some (.int .u8)) (hc : P.cellsOf e = 1) {W : World} {a0 : Option Addr} {len cap : Nat} {d0 : DataW H} {p : List MemPlace}
    (h0 : DataW.Trod enc P W 0 (fun _ => true) true t (.slice a0 len cap) d0 p) :
    len ≤ 9223372036854775807 ∧ ∃ xs : List Int, InB W a0 len xs ∧ ∀ i, 0 ≤ xs.getD i 0 ∧ xs.getD i 0 ≤ 255 := by
  obtain ⟨fuel, hf⟩ := h0
  rcases open_ints ht he hc hf with ⟨hcs, _⟩ | ⟨a, len', cap', zs, hcs, _, hl, hm, hz, _, hcell, hwz⟩
  · simp [Value.cells] at hcs
    obtain ⟨rfl, rfl, rfl⟩ := hcs
    exact ⟨by omega, [], fun h => absurd h (Nat.lt_irrefl 0), fun i => by simp⟩
  · simp [Value.cells] at hcs
    obtain ⟨rfl, rfl, rfl⟩ := hcs
    simp only [if_true] at hz
    refine ⟨by unfold maxLen at hm; omega, zs, fun hn => ?_, fun i => ?_⟩
    · obtain ⟨b, o, s⟩ := a
      obtain rfl : s = none := by simpa [Addr.add] using World.cell?_spot (hcell 0 (by omega))
      refine ⟨b, o, rfl, ?_, fun i hi => by rw [← Go.WideShapes.add_plain]; exact hcell i (by omega)⟩
      have := hcell 0 (by omega)
      rw [Go.WideShapes.add_plain] at this
      exact lt_of_cell this
    · by_cases hi : i < zs.length
      · have := hwz zs[i] (List.getElem_mem hi)
        have e1 : zs.getD i 0 = zs[i] := by simp [List.getD, hi]
        rw [e1]
        have h1 : IntKind.u8.min = 0 := rfl
        have h2 : IntKind.u8.max = 255 := rfl
        simp only [Lit.wf, Bool.and_eq_true, decide_eq_true_eq] at this
        omega
      · simp [List.getD, List.getElem?_eq_none (by omega : zs.length ≤ i)]
theorem opened_strings {t e : TypeId} (ht : P.underlying t = some (.slice e)) (he : P.underlying e = some .string) (hc : P.cellsOf e = 1) {W : World} {a0 : Option Addr} {len cap : Nat} {d0 : DataW H} {p : List MemPlace}
    (h0 : DataW.Trod enc P W 0 (fun _ => true) true t (.slice a0 len cap) d0 p) :
    len ≤ 9223372036854775807 ∧ ∃ xs : List (List UInt8), xs.length = len ∧ InS W a0 len xs ∧ ∀ i, (xs.getD i []).length ≤ 9223372036854775807 := by
  obtain ⟨fuel, hf⟩ := h0
  rcases open_strings ht he hc hf with ⟨hcs, _⟩ | ⟨a, len', cap', ss, hcs, _, hl, hm, hz, _, hcell, hwz⟩
  · simp [Value.cells] at hcs
    obtain ⟨rfl, rfl, rfl⟩ := hcs
    exact ⟨by omega, [], rfl, fun h => absurd h (Nat.lt_irrefl 0), fun i => by simp⟩
  · simp [Value.cells] at hcs
    obtain ⟨rfl, rfl, rfl⟩ := hcs
    simp only [if_true] at hz
    have key : ∀ i, ((ss.take len).map fun s => s.data.toList).getD i [] = if i < len then (ss.getD i ByteArray.empty).data.toList else [] := fun i => by
      by_cases hi : i < len
      · rw [if_pos hi]
        simp [List.getD, hi, List.getElem?_eq_getElem (by omega : i < ss.length)]
      · rw [if_neg hi, List.getD_eq_getElem?_getD, List.getElem?_eq_none (by simp; omega)]; rfl
    refine ⟨by unfold maxLen at hm; omega, (ss.take len).map fun s => s.data.toList, by simp; omega, fun hn => ?_, fun i => ?_⟩
    · obtain ⟨b, o, s⟩ := a
      obtain rfl : s = none := by simpa [Addr.add] using World.cell?_spot (hcell 0 (by omega))
      refine ⟨b, o, rfl, ?_, fun i hi => ?_⟩
      · have := hcell 0 (by omega)
        rw [Go.WideShapes.add_plain] at this
        exact lt_of_cell this
      · rw [key i, if_pos hi, ← Go.WideShapes.add_plain]; exact hcell i (by omega)
    · rw [key i]
      by_cases hi : i < len
      · rw [if_pos hi]
        have hi' : i < ss.length := by omega
        have := hwz ss[i] (List.getElem_mem hi')
        rw [show ss.getD i ByteArray.empty = ss[i] by simp [List.getD, hi']]
        exact this
      · rw [if_neg hi]; simp
/-- one reign, as the plain functions see it -/
abbrev RG := List UInt8 × Int × Int
/-- reigns that lie in a row -/
def InR (w : World) (p : Option Addr) (n : Nat) (rs : List RG) : Prop :=
  0 < n → ∃ b o, p = some ⟨b, o, none⟩ ∧ b < w.heap.size ∧ ∀ i, i < n → w.cell? ⟨b, o + i * 3, none⟩ = some (.string ⟨(rs.getD i ([], 0, 0)).1.toArray⟩) ∧
    w.cell? ⟨b, o + i * 3 + 1, none⟩ = some (.int .i64 (rs.getD i ([], 0, 0)).2.1) ∧ w.cell? ⟨b, o + i * 3 + 2, none⟩ = some (.int .i64 (rs.getD i ([], 0, 0)).2.2)
theorem InR.below {w w' : World} {p : Option Addr} {n : Nat} {rs : List RG} (h : InR w p n rs) (hb : Below w.heap.size w w') : InR w' p n rs := fun hn => by
  obtain ⟨b, o, e, hlt, hc⟩ := h hn
  refine ⟨b, o, e, Nat.lt_of_lt_of_le hlt hb.size, fun i hi => ?_⟩
  obtain ⟨h0, h1, h2⟩ := hc i hi
  exact ⟨(hb.cell (p := ⟨b, _, none⟩) hlt).trans h0, (hb.cell (p := ⟨b, _, none⟩) hlt).trans h1, (hb.cell (p := ⟨b, _, none⟩) hlt).trans h2⟩
def rgOk (r : RG) : Prop := r.1.length ≤ 9223372036854775807 ∧ (Lit.int .i64 r.2.1).wf = true ∧ (Lit.int .i64 r.2.2).wf = true
theorem opened_reigns {t e : TypeId} {f0 f1 f2 : Field} (ht : P.underlying t = some (.slice e)) (he : P.underlying e = some (.struct #[f0, f1, f2])) (hone : oneCellFields P #[f0, f1, f2] = true) (hC : P.cellsOf e = 3)
    (h0 : P.underlying f0.type = some .string) (h1 : P.underlying f1.type = some (.int .i64)) (h2 : P.underlying f2.type = some (.int .i64)) {W : World} {a0 : Option Addr} {len cap : Nat} {d0 : DataW H} {p : List MemPlace}
    (hd : DataW.Trod enc P W 0 (fun _ => true) true t (.slice a0 len cap) d0 p) :
    len ≤ 9223372036854775807 ∧ ∃ rs : List RG, rs.length = len ∧ InR W a0 len rs ∧ ∀ i, rgOk (rs.getD i ([], 0, 0)) := by
  obtain ⟨fuel, hf⟩ := hd
  rcases open_slice ht hf with ⟨hcs, _⟩ | ⟨a, len', cap', m, n, D, Pl, hcs, _, hl, hm, hmm, _, hx⟩
  · simp [Value.cells] at hcs
    obtain ⟨rfl, rfl, rfl⟩ := hcs
    exact ⟨by omega, [], rfl, fun h => absurd h (Nat.lt_irrefl 0), fun i => by rw [show ([] : List RG).getD i ([], 0, 0) = ([], 0, 0) from by simp]; exact ⟨by simp, by decide, by decide⟩⟩
  · simp [Value.cells] at hcs
    obtain ⟨rfl, rfl, rfl⟩ := hcs
    simp only [if_true] at hmm
    obtain ⟨o0, k0⟩ := hone_of hone 0 f0 rfl
    obtain ⟨o1, k1⟩ := hone_of hone 1 f1 rfl
    obtain ⟨o2, k2⟩ := hone_of hone 2 f2 rfl
    have each : ∀ i, i < len → ∃ r : RG, rgOk r ∧ W.cell? (a.add (i * 3)) = some (.string ⟨r.1.toArray⟩) ∧ W.cell? ((a.add (i * 3)).add 1) = some (.int .i64 r.2.1) ∧ W.cell? ((a.add (i * 3)).add 2) = some (.int .i64 r.2.2) := by
      intro i hi
      obtain ⟨cs', hcs, hr⟩ := hx i (by omega)
      rw [hC] at hcs
      obtain ⟨_, hlen, hcell⟩ := World.cells?_some hcs
      match cs', hlen with
      | [c0, c1, c2], _ =>
        obtain ⟨y0, y1, y2, n', _, _, g0, g1, g2⟩ := trod_struct3 he hr
        rw [o0, k0] at g0
        rw [o1, k1] at g1
        rw [o2, k2] at g2
        obtain ⟨s, e0, _, ws⟩ := DataW.trod_string h0 g0
        obtain ⟨x, e1, _, wx⟩ := DataW.trod_int h1 g1
        obtain ⟨z, e2, _, wz⟩ := DataW.trod_int h2 g2
        simp at e0 e1 e2
        subst e0 e1 e2
        have q0 := hcell 0 (by omega)
        have q1 := hcell 1 (by omega)
        have q2 := hcell 2 (by omega)
        refine ⟨(s.data.toList, x, z), ⟨ws, wx, wz⟩, ?_, q1, q2⟩
        rw [show (a.add (i * 3)) = (a.add (i * 3)).add 0 from by simp [Addr.add]]
        exact q0
    obtain ⟨R, hR⟩ := choose_lt (α := RG) (p := fun i r => rgOk r ∧ W.cell? (a.add (i * 3)) = some (.string ⟨r.1.toArray⟩) ∧ W.cell? ((a.add (i * 3)).add 1) = some (.int .i64 r.2.1) ∧ W.cell? ((a.add (i * 3)).add 2) = some (.int .i64 r.2.2)) each
    have key : ∀ i, i < len → ((List.range len).map R).getD i ([], 0, 0) = R i := fun i hi => by simp [List.getD, hi]
    refine ⟨by unfold maxLen at hm; omega, (List.range len).map R, by simp, fun hn => ?_, fun i => ?_⟩
    · obtain ⟨b, o, s⟩ := a
      obtain rfl : s = none := by simpa [Addr.add] using World.cell?_spot (hR 0 (by omega)).2.1
      refine ⟨b, o, rfl, ?_, fun i hi => ?_⟩
      · have := (hR 0 (by omega)).2.1
        rw [Go.WideShapes.add_plain] at this
        exact lt_of_cell this
      · rw [key i hi]
        obtain ⟨_, q0, q1, q2⟩ := hR i hi
        rw [Go.WideShapes.add_plain] at q0 q1 q2
        rw [Go.WideShapes.add_plain] at q1 q2
        exact ⟨q0, q1, q2⟩
    · by_cases hi : i < len
      · rw [key i hi]; exact (hR i hi).1
      · rw [List.getD_eq_getElem?_getD, List.getElem?_eq_none (by simp; omega)]
        exact ⟨by simp, by decide, by decide⟩
/-- the input reads as it did -/
theorem again_of_below {t : TypeId} (hl : laidOutB P = true) (hr : P.readableRec t = true) (hrow : t < P.types.size) {W W' : World} {v : Value} {d : DataW H} {ps : List MemPlace} {sp : Nat → Bool}
    (h : DataW.Trod enc P W 0 (fun _ => true) true t v d ps) (hb : Below W.heap.size W W') (hlt : ∀ x ∈ ps, x.block < W.heap.size) (hsp : ∀ x ∈ ps, sp x.block = true) :
    DataW.Trod enc P W' 0 sp true t v d ps :=
  WideElems.Trod_stays hl hr hrow h (fun x hx => hb.same (hlt x hx)) (fun x hx => hsp x hx)
end
end Go.Proofs.YtmpgokijlikddaaGreatDoor
