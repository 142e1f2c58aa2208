/- Draws of reigns: each returns a reign whose king's name is short, and numbers in their range. Conditions: how the code and the source lie. -/
import Derived.Test.YtnoeakhhokbikaaDoorSrc
import Derived.Test.YtnoeakhhokbikaaDoorNum
namespace Go.Proofs.YtnoeakhhokbikaaDoor
open Go.RowKit
theorem num229_bd (y : Int) (h0 : 1 ≤ y) (h1 : y ≤ 3000) : -10 ≤ num y 2 29 ∧ num y 2 29 ≤ 2000000 := by
  have e : cum y 2 = 31 := by simp [cum]
  unfold num nyear; omega
theorem Off.set2 {g b : Nat} {w w' : World} (h : Off g w w') (hb : w.heap.size ≤ b) (i : Nat) (u : Value) : Off g w (w'.setCell ⟨b, i, none⟩ u) :=
  ⟨h.os, h.tape, h.output, by simpa using h.size, fun j hj hn => (Below.heap_setCell w' ⟨b, i, none⟩ u j (fun e => by have e' : j = b := e; omega)).trans (h.block j hj hn)⟩
theorem Src.set2 {w w' : World} {g n c b : Nat} {a : Option Addr} {xs : List Int} (h : Src w' g a n c xs) (h0 : Src w g a n c xs) (hb : w.heap.size ≤ b) (i : Nat) (u : Value) : Src (w'.setCell ⟨b, i, none⟩ u) g a n c xs := by
  have hg := h0.lt
  obtain ⟨⟨k, sd, hB, h1⟩, h2, h3⟩ := h
  refine ⟨⟨k, sd, hB.far (p := ⟨b, i, none⟩) (by show g ≠ b; omega) u, h1⟩, fun hn => ?_, h3⟩
  obtain ⟨b1, o1, e1, hl1, hc1⟩ := h2 hn
  obtain ⟨b2, o2, e2, hl2, _⟩ := h0.2.1 hn
  rw [e1] at e2
  injection e2 with e2
  injection e2 with e3
  refine ⟨b1, o1, e1, by simpa using hl1, fun j hj => ?_⟩
  rw [World.cell?_setCell_other w' _ _ _ (fun e => by injection e with e4; omega)]
  exact hc1 j hj
end Go.Proofs.YtnoeakhhokbikaaDoor
