/- The draw of a mark with two years. Conditions: how the code lies; at most 4096 bytes. -/
import Derived.Test.YtffpaedhdjnbjaaDrawM
namespace Go.Proofs.Ytffpaedhdjnbjaa
open Go.RowKit
theorem keepC {W : World} {b x : Nat} (h : x ≠ b) (v0 v1 v2 : Value) (o : Nat) (v : Value) (hc : W.cell? ⟨x, o, none⟩ = some v) : (((W.setCell ⟨b, 0, none⟩ v0).setCell ⟨b, 1, none⟩ v1).setCell ⟨b, 2, none⟩ v2).cell? ⟨x, o, none⟩ = some v := by
  rw [World.cell?_setCell_other _ _ _ _ (fun e => by injection e with e1; exact h e1.symm), World.cell?_setCell_other _ _ _ _ (fun e => by injection e with e1; exact h e1.symm), World.cell?_setCell_other _ _ _ _ (fun e => by injection e with e1; exact h e1.symm)]
  exact hc
theorem five5 {P : Int → Prop} {a b c d e : Int} (ha : P a) (hb : P b) (hc : P c) (hd : P d) (he : P e) (j : Nat) (hj : j < 5) : P ([a, b, c, d, e].getD j 0) := by
  match j, hj with
  | 0, _ => exact ha
  | 1, _ => exact hb
  | 2, _ => exact hc
  | 3, _ => exact hd
  | 4, _ => exact he
set_option maxRecDepth 100000 in
set_option maxHeartbeats 2000000 in
theorem d_YearsMarked (a : Option Addr) (n c : Nat) (xs : List Int) (w : World) (hI : InB w a n xs) (hn : n ≤ 4096) (hx : ∀ i, 0 ≤ xs.getD i 0 ∧ xs.getD i 0 ≤ 255) : Calls Try.prog 20 #[.slice a n c] w fun r w' =>
    (∃ i e k f t, r = .returned (.tuple #[.agg #[.int .i64 i, .int .i64 e, .int .i64 k], .int .i64 f, .int .i64 t])) ∧ Below w.heap.size w w' := by
  have con := fun o => d_from a n c xs (w.alloc o) (hI.below (below_alloc w o)) hn hx
  simp only [World.size_alloc] at con
  have CON := Lib.hid con
  clear con hI hx hn
  go_enter Try.func20, Try.ntmps20
  go_wp2_with fail
  refine (CON.out _).mono ?_
  rintro r w1 ⟨rfl, S1, hb1⟩
  clear CON
  have R1 := (Blk.new w _ _).below hb1 (by omega)
  have L1 := (below_alloc w _).trans (hb1.mono (by omega))
  clear hb1
  go_wp2_with fail
  refine (d_mark8 _ _ _ _ _ _ S1).mono ?_
  rintro r w2 ⟨⟨i, e, k, rfl⟩, S2, O2⟩
  have R2 := O2.blk R1 (by omega)
  have hr1 := R1.lt
  clear R1 S1
  go_wp2_with fail
  refine (d_year4 _ _ _ _ _ _ S2).mono ?_
  rintro r w3 ⟨⟨y, rfl, y0, y1⟩, S3, hO⟩
  have R3 := hO.blk R2 (by omega)
  have O3 := O2.trans hO
  have hg3 := S3.lt
  have hr3 := R3.lt
  clear hO R2 S2 O2
  have X4 := Blk.new w3 32 #[.int .i64 i, .int .i64 e, .int .i64 k]
  have R4 := R3.alloc (.cells #[.int .i64 i, .int .i64 e, .int .i64 k] 32)
  have S4 := S3.below (below_alloc w3 (.cells #[.int .i64 i, .int .i64 e, .int .i64 k] 32))
  have O4 := O3.alloc (.cells #[.int .i64 i, .int .i64 e, .int .i64 k] 32)
  have hne : w3.heap.size ≠ w.heap.size := by omega
  have hx4 := X4.lt
  have con1 := d_next (w.heap.size + 1) n c a xs 300 _ S4.undrew'
  clear S4
  go_wp2_with fail
  go_region_held3 (fun W => W.cell? ⟨w3.heap.size, 0, none⟩ = some (.int .i64 i) ∧ W.cell? ⟨w3.heap.size, 1, none⟩ = some (.int .i64 e) ∧ W.cell? ⟨w3.heap.size, 2, none⟩ = some (.int .i64 k))
    (first | go_keep | exact ⟨d0, d1, d2⟩ | exact ⟨e0, e1, e2⟩ | exact ⟨keepC hne _ _ _ _ _ e0, keepC hne _ _ _ _ _ e1, keepC hne _ _ _ _ _ e2⟩)
    (first
      | (go_at_call 69; refine con1.mono ?_; rintro r w5 ⟨⟨q, rfl, _, hq⟩, S5, hO5⟩; have q01 := hq (by omega); have hOd := hO5.undrew'; have X5 := hOd.blk X4 (by omega); have R5 := hOd.blk R4 (by omega); have O5 := O4.trans hOd; have d0 := X5.c0; have d1 := X5.c1; have d2 := X5.c2; have hx5 := X5.lt; have hg5 := S5.lt; have hr5 := R5.lt; clear hq hO5 hOd)
      | (go_at_call 68; refine (d_pick (w.heap.size + 1) n c w5.heap.size 5 a xs [q, 600, 601, -1, 532] _ (S5.below (below_alloc _ _)) (by omega) (by simp) (by omega) (by omega) (fun j hj => cellsI (l := [q, 600, 601, -1, 532]) (Blk.new w5 _ _) j hj)).mono ?_; rintro r w6 ⟨⟨j, hj, rfl⟩, S6, hO6⟩; have hv := five5 (P := fun z => -1 ≤ z ∧ z ≤ 700) (a := q) (b := 600) (c := 601) (d := -1) (e := 532) (by omega) (by omega) (by omega) (by omega) (by omega) j hj; obtain ⟨v, hvv⟩ : ∃ v, [q, 600, 601, -1, (532 : Int)].getD j 0 = v := ⟨_, rfl⟩; rw [hvv] at hv; rw [hvv]; have wv : IntKind.i64.wrap (y + v) = y + v := IntWalk.i64_in _ (by omega); have X6 := hO6.blk (X5.alloc _) (by omega); have R6 := hO6.blk (R5.alloc _) (by omega); have O6 := (O5.alloc _).trans hO6; have e0 := X6.c0; have e1 := X6.c1; have e2 := X6.c2; have hx6 := X6.lt; have u0 := R6.c0; have u1 := R6.c1; have u2 := R6.c2; have v0 := R6.frozen 0; have v1 := R6.frozen 1; have v2 := R6.frozen 2; have hr6 := R6.lt; clear hvv hj hO6))
  go_wp2_with fail
  refine bodyPost_ret (v := .tuple #[.agg #[.int .i64 i, .int .i64 e, .int .i64 k], .int .i64 y, .int .i64 (y + v)]) (by simp [results, Try.results20, go_sem, u0, u1, u2]) rfl ⟨⟨i, e, k, y, y + v, rfl⟩, ?_⟩
  have L5 := Off.below L1 O6 (by omega) (by omega)
  exact below_set' (below_set' (below_set' L5 (by omega) _ _) (by omega) _ _) (by omega) _ _
set_option maxRecDepth 100000 in
theorem l_big' (a : Option Addr) (n c : Nat) (w : World) : Calls Try.prog 12 #[.slice a n c] w fun e w' => e = .returned (.bool (decide ((4096 : Int) < n))) ∧ Below w.heap.size w w' := by
  go_enter Try.func12, Try.ntmps12
  go_wp2_with fail
  go_ret
  exact ⟨rfl, Below.refl _ _⟩
end Go.Proofs.Ytffpaedhdjnbjaa
