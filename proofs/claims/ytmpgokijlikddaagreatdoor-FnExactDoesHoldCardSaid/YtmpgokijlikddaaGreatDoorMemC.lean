/- A clause, an argument by value: opened and shut. No condition. -/
import Derived.Test.YtmpgokijlikddaaGreatDoorMem
namespace Go.Proofs.YtmpgokijlikddaaGreatDoor
open Go.RowKit Go.ChangeShapes Go.WideShapes Go.Deep Go.Joins
section
variable {H : Type} {enc : TypeId × Value → H} {P : Program}
theorem array8 {α : Type} {cs : Array α} (h : cs.size = 8) : ∃ c0 c1 c2 c3 c4 c5 c6 c7, cs = #[c0, c1, c2, c3, c4, c5, c6, c7] := by
  obtain ⟨l⟩ := cs
  match l, h with
  | [c0, c1, c2, c3, c4, c5, c6, c7], _ => exact ⟨c0, c1, c2, c3, c4, c5, c6, c7, rfl⟩
theorem list8 {α : Type} {l : List α} (h : l.length = 8) : ∃ c0 c1 c2 c3 c4 c5 c6 c7, l = [c0, c1, c2, c3, c4, c5, c6, c7] := by
  match l, h with
  | [c0, c1, c2, c3, c4, c5, c6, c7], _ => exact ⟨c0, c1, c2, c3, c4, c5, c6, c7, rfl⟩
theorem open_clause {t : TypeId} {f0 f1 f2 f3 f4 f5 f6 f7 : Field} (hs : P.underlying t = some (.struct #[f0, f1, f2, f3, f4, f5, f6, f7])) (hone : oneCellFields P #[f0, f1, f2, f3, f4, f5, f6, f7] = true) (hC : P.cellsOf t = 8)
    (u0 : P.underlying f0.type = some (.int .i64)) (u1 : P.underlying f1.type = some (.int .i64)) (u2 : P.underlying f2.type = some (.int .i64)) (u3 : P.underlying f3.type = some (.int .i64))
    (u4 : P.underlying f4.type = some (.int .i64)) (u5 : P.underlying f5.type = some (.int .i64)) (u6 : P.underlying f6.type = some (.int .i64)) (u7 : P.underlying f7.type = some .string)
    {r : Reach} {b0 : Nat} {W : World} {base : Nat} {sp : Nat → Bool} {held : Bool} {v : Value} {d : DataW H} {p : List MemPlace} (hv : Value.okWide P W r b0 t v) (h : DataW.Trod enc P W base sp held t v d p) :
    ∃ (q n m f r' d' s : Int) (k : ByteArray), v = .agg #[.int .i64 q, .int .i64 n, .int .i64 m, .int .i64 f, .int .i64 r', .int .i64 d', .int .i64 s, .string k] ∧ p = [] ∧ k.size ≤ maxLen ∧
      ∀ (W' : World) (base' : Nat) (sp' : Nat → Bool) (held' : Bool), DataW.Trod enc P W' base' sp' held' t (.agg #[.int .i64 q, .int .i64 n, .int .i64 m, .int .i64 f, .int .i64 r', .int .i64 d', .int .i64 s, .string k]) d [] := by
  obtain ⟨cs, rfl, hsz⟩ := okWide_struct hs hv
  obtain ⟨c0, c1, c2, c3, c4, c5, c6, c7, rfl⟩ := array8 (hsz.trans hC)
  obtain ⟨fuel, hf⟩ := h
  obtain ⟨xs, m, _, hx, _, hl, hg⟩ := DataW.trod_struct hs hf
  obtain ⟨y0, y1, y2, y3, y4, y5, y6, y7, rfl⟩ := list8 (l := xs) (by simpa using hl)
  obtain ⟨o0, k0⟩ := hone_of hone 0 f0 rfl
  obtain ⟨o1, k1⟩ := hone_of hone 1 f1 rfl
  obtain ⟨o2, k2⟩ := hone_of hone 2 f2 rfl
  obtain ⟨o3, k3⟩ := hone_of hone 3 f3 rfl
  obtain ⟨o4, k4⟩ := hone_of hone 4 f4 rfl
  obtain ⟨o5, k5⟩ := hone_of hone 5 f5 rfl
  obtain ⟨o6, k6⟩ := hone_of hone 6 f6 rfl
  obtain ⟨o7, k7⟩ := hone_of hone 7 f7 rfl
  have g0 := hg 0 f0 rfl
  have g1 := hg 1 f1 rfl
  have g2 := hg 2 f2 rfl
  have g3 := hg 3 f3 rfl
  have g4 := hg 4 f4 rfl
  have g5 := hg 5 f5 rfl
  have g6 := hg 6 f6 rfl
  have g7 := hg 7 f7 rfl
  rw [o0, k0] at g0
  rw [o1, k1] at g1
  rw [o2, k2] at g2
  rw [o3, k3] at g3
  rw [o4, k4] at g4
  rw [o5, k5] at g5
  rw [o6, k6] at g6
  rw [o7, k7] at g7
  obtain ⟨z0, e0, r0, w0⟩ := DataW.trod_int u0 g0
  obtain ⟨z1, e1, r1, w1⟩ := DataW.trod_int u1 g1
  obtain ⟨z2, e2, r2, w2⟩ := DataW.trod_int u2 g2
  obtain ⟨z3, e3, r3, w3⟩ := DataW.trod_int u3 g3
  obtain ⟨z4, e4, r4, w4⟩ := DataW.trod_int u4 g4
  obtain ⟨z5, e5, r5, w5⟩ := DataW.trod_int u5 g5
  obtain ⟨z6, e6, r6, w6⟩ := DataW.trod_int u6 g6
  obtain ⟨z7, e7, r7, w7⟩ := DataW.trod_string u7 g7
  simp [Value.cells] at e0 e1 e2 e3 e4 e5 e6 e7
  subst e0 e1 e2 e3 e4 e5 e6 e7 r0 r1 r2 r3 r4 r5 r6 r7
  simp only [Prod.mk.injEq] at hx
  obtain ⟨hx1, hx2⟩ := hx
  refine ⟨z0, z1, z2, z3, z4, z5, z6, z7, rfl, by rw [hx2]; simp, w7, fun W' base' sp' held' => ?_⟩
  obtain ⟨n7, t7⟩ := shut_string_cell (enc := enc) (P := P) (w := W') (base := base') (spare := sp') (held := held') u7 w7
  have ti : ∀ {ty : TypeId} {z : Int}, P.underlying ty = some (.int .i64) → (Lit.int .i64 z).wf = true → DataW.trod enc P W' base' sp' held' (n7 + 1) ty [.int .i64 z] = some (.lit (.int .i64 z), []) := fun hu hw => trod_int_mk n7 hu hw
  have t7' := DataW.trod_le (Nat.le_succ n7) t7
  have ts := trod_struct_mk (enc := enc) (w := W') (base := base') (spare := sp') (held := held') (n := n7 + 1)
    (cs := [.int .i64 z0, .int .i64 z1, .int .i64 z2, .int .i64 z3, .int .i64 z4, .int .i64 z5, .int .i64 z6, .string z7])
    (xs := [(.lit (.int .i64 z0), []), (.lit (.int .i64 z1), []), (.lit (.int .i64 z2), []), (.lit (.int .i64 z3), []), (.lit (.int .i64 z4), []), (.lit (.int .i64 z5), []), (.lit (.int .i64 z6), []), (.lit (.string z7.data.toList), [])]) hs (by simp [hC])
    (by simp [o0, k0, o1, k1, o2, k2, o3, k3, o4, k4, o5, k5, o6, k6, o7, k7, ti u0 w0, ti u1 w1, ti u2 w2, ti u3 w3, ti u4 w4, ti u5 w5, ti u6 w6, t7'])
  refine ⟨n7 + 1 + 1, ?_⟩
  rw [hx1]
  simpa [Value.cells] using ts
end
end Go.Proofs.YtmpgokijlikddaaGreatDoor
