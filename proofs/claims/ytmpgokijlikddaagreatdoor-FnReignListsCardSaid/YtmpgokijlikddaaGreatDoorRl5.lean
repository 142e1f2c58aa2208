/- Texts put together: DrawR JoinC Marks Like. No condition beyond those that stand in each. -/
import Derived.Test.YtmpgokijlikddaaGreatDoorSrc
import Derived.Test.YtmpgokijlikddaaGreatDoorNum
import Derived.Test.YtmpgokijlikddaaGreatDoorJoin
import Derived.Test.YtmpgokijlikddaaGreatDoorShelf
import Derived.Test.YtmpgokijlikddaaGreatDoorRl1
/- Draws of reigns: each returns a reign whose king's name is short, and numbers in their range. Conditions: how the code and the source lie. -/
namespace Go.Proofs.YtmpgokijlikddaaGreatDoor
open Go.RowKit
theorem num229_bd (y : Int) (h0 : 1 ≤ y) (h1 : y ≤ 3000) : -10 ≤ num y 2 29 ∧ num y 2 29 ≤ 2000000 := by
  have e : cum y 2 = 31 := by simp [cum]
  unfold num nyear; omega
theorem Off.set2 {g b : Nat} {w w' : World} (h : Off g w w') (hb : w.heap.size ≤ b) (i : Nat) (u : Value) : Off g w (w'.setCell ⟨b, i, none⟩ u) :=
  ⟨h.os, h.tape, h.output, by simpa using h.size, fun j hj hn => (Below.heap_setCell w' ⟨b, i, none⟩ u j (fun e => by have e' : j = b := e; omega)).trans (h.block j hj hn)⟩
theorem Src.set2 {w w' : World} {g n c b : Nat} {a : Option Addr} {xs : List Int} (h : Src w' g a n c xs) (h0 : Src w g a n c xs) (hb : w.heap.size ≤ b) (i : Nat) (u : Value) : Src (w'.setCell ⟨b, i, none⟩ u) g a n c xs := by
  have hg := h0.lt
  obtain ⟨⟨k, sd, hB, h1⟩, h2, h3⟩ := h
  refine ⟨⟨k, sd, hB.far (p := ⟨b, i, none⟩) (by show g ≠ b; omega) u, h1⟩, fun hn => ?_, h3⟩
  obtain ⟨b1, o1, e1, hl1, hc1⟩ := h2 hn
  obtain ⟨b2, o2, e2, hl2, _⟩ := h0.2.1 hn
  rw [e1] at e2
  injection e2 with e2
  injection e2 with e3
  refine ⟨b1, o1, e1, by simpa using hl1, fun j hj => ?_⟩
  rw [World.cell?_setCell_other w' _ _ _ (fun e => by injection e with e4; omega)]
  exact hc1 j hj
set_option maxRecDepth 100000 in
theorem d_king (g n c : Nat) (a : Option Addr) (xs : List Int) (w : World) (hS : Src w g a n c xs) : Calls Tryz.prog 84 #[.pointer (some ⟨g, 0, none⟩)] w fun e w' =>
    (∃ s : ByteArray, e = .returned (.string s) ∧ s.size ≤ 20) ∧ Src w' g a n c xs ∧ Off g w w' := by
  have hSA := fun (o : Obj) => hS.below (below_alloc w o)
  have hg := hS.lt
  have HSA := Lib.hid hSA
  clear hSA hS
  go_enter Tryz.func84, Tryz.ntmps84
  go_wp2_with fail
  refine (d_next _ _ _ _ _ _ _ (HSA.out _)).mono ?_
  rintro e w1 ⟨⟨r, rfl, _, hr⟩, hS1, hO⟩
  have hr := hr (by omega)
  have hB1 := hO.blk (Blk.new w _ _) (by omega)
  have L1 := (Off.of (g := g) (below_alloc w _)).trans hO
  have hz := hB1.lt
  have k0 := hB1.cell 0
  have k1 := hB1.cell 1
  have k2 := hB1.cell 2
  have k3 := hB1.cell 3
  have hr4 : r = 0 ∨ r = 1 ∨ r = 2 ∨ r = 3 := by omega
  rcases hr4 with rfl | rfl | rfl | rfl
  all_goals
    go_wp2_with fail
    go_ret
    exact ⟨⟨_, rfl, by decide⟩, hS1, L1⟩
set_option maxRecDepth 100000 in
set_option maxHeartbeats 1000000 in
theorem d_reign (g n c : Nat) (a : Option Addr) (xs : List Int) (w : World) (hS : Src w g a n c xs) : Calls Tryz.prog 131 #[.pointer (some ⟨g, 0, none⟩)] w fun e w' =>
    (∃ (s : ByteArray) (f t : Int), e = .returned (.agg #[.string s, .int .i64 f, .int .i64 t]) ∧ s.size ≤ 20 ∧ -10 ≤ f ∧ f ≤ 3000000 ∧ -20 ≤ t ∧ t ≤ 4000000) ∧ Src w' g a n c xs ∧ Off g w w' := by
  have hSA := fun (o : Obj) => hS.below (below_alloc w o)
  have hg := hS.lt
  have HSA := Lib.hid hSA
  have H0 := Lib.hid hS
  clear hSA hS
  go_enter Tryz.func131, Tryz.ntmps131
  go_wp2_with fail
  refine (d_next _ _ _ _ _ _ _ (HSA.out _)).mono ?_
  rintro e w1 ⟨⟨r, rfl, _, hr⟩, hS1, hO⟩
  obtain ⟨r0, r1⟩ := hr (by omega)
  have O1 := (Off.of (g := g) (below_alloc w _)).trans hO
  have R1 := hO.blk (Blk.new w _ _) (by omega)
  clear hr hO
  go_wp2_with fail
  refine (d_next _ _ _ _ _ _ _ hS1).mono ?_
  rintro e w2 ⟨⟨q, rfl, _, hq⟩, hS2, hO⟩
  obtain ⟨q0, q1⟩ := hq (by omega)
  have O2 := O1.trans hO
  have R2 := hO.blk R1 (by omega)
  clear hq hO R1 O1 hS1
  have hkey : (∃ F : Int, q = 0 ∨ ¬ q = 0) := ⟨0, by omega⟩
  clear hkey
  by_cases hq : q = 0
  focus
    subst hq
    go_wp2_with fail
    refine (d_next _ _ _ _ _ _ _ hS2).mono ?_
    rintro e w3 ⟨⟨p, rfl, _, hp⟩, hS3, hO⟩
    obtain ⟨p0, p1⟩ := hp (by omega)
    have O3 := O2.trans hO
    have R3 := hO.blk R2 (by omega)
    clear hp hO R2 O2 hS2
    go_wp2_with fail
    refine (s_num _ _ _ _ (by omega) (by omega) (by omega) (by omega) (by omega) (by omega)).mono ?_
    rintro e w5 ⟨rfl, hb5⟩
    obtain ⟨F0, F1⟩ := num229_bd (1160 + 4 * p) (by omega) (by omega)
    obtain ⟨F, hF⟩ : ∃ F, num (1160 + 4 * p) 2 29 = F := ⟨_, rfl⟩
    rw [hF] at F0 F1 ⊢
    have hS5 := hS3.below hb5
    have R5 := R3.below hb5 R3.lt
    have O5 := O3.trans (Off.of hb5)
    clear hb5 R3 O3 hS3 hF
    go_wp2_with fail
  rotate_left
  focus
    obtain ⟨w5, hw5⟩ : ∃ w5, w2 = w5 := ⟨_, rfl⟩
    subst hw5
    obtain ⟨F, hF⟩ : ∃ F, 420000 + r = F := ⟨_, rfl⟩
    have F0 : -10 ≤ F := by omega
    have F1 : F ≤ 2000000 := by omega
    rw [hF]
    have hS5 := hS2
    have R5 := R2
    have O5 := O2
    clear hS2 R2 O2 hF
    go_wp2_with fail
  all_goals
    refine (d_king _ _ _ _ _ _ hS5).mono ?_
    rintro e w6 ⟨⟨s, rfl, hs⟩, hS6, hO⟩
    have O6 := O5.trans hO
    have R6 := hO.blk R5 (by omega)
    have hg6 := hS6.lt
    clear hO hS5 O5 R5
    go_wp2_with fail
    refine (d_pick g n c w6.heap.size 3 a xs [100, 3000, 9000] _ (hS6.below (below_alloc _ _)) (by omega) (by simp) (by omega) (by omega) (fun j hj => by
      match j, hj with
      | 0, _ => exact (Blk.new w6 _ _).cell 0
      | 1, _ => exact (Blk.new w6 _ _).cell 1
      | 2, _ => exact (Blk.new w6 _ _).cell 2)).mono ?_
    rintro e w7 ⟨⟨j, hj, rfl⟩, hS7, hO⟩
    have O7 := (O6.alloc _).trans hO
    have R7 := hO.blk (R6.alloc _) (by omega)
    have hv : 100 ≤ [(100 : Int), 3000, 9000].getD j 0 ∧ [(100 : Int), 3000, 9000].getD j 0 ≤ 9000 := by
      match j, hj with
      | 0, _ => decide
      | 1, _ => decide
      | 2, _ => decide
    obtain ⟨v, hvv⟩ : ∃ v, [(100 : Int), 3000, 9000].getD j 0 = v := ⟨_, rfl⟩
    rw [hvv] at hv ⊢
    obtain ⟨v0, v1⟩ := hv
    clear hO hS6 O6 R6 hvv hj
    go_wp2_with fail
    refine (d_next _ _ _ _ _ _ _ hS7).mono ?_
    rintro e w8 ⟨⟨u, rfl, _, hu⟩, hS8, hO⟩
    obtain ⟨u0, u1⟩ := hu (by omega)
    have O8 := O7.trans hO
    have R8 := hO.blk R7 (by omega)
    have hg8 := hS8.lt
    clear hO hS7 O7 R7 hu
    go_wp2_with fail
    refine (d_next _ _ _ _ _ _ _ (hS8.below (below_alloc w8 _))).mono ?_
    rintro e w9 ⟨⟨z, rfl, _, hz⟩, hS9, hO⟩
    obtain ⟨z0, z1⟩ := hz (by omega)
    have O9 := (O8.alloc _).trans hO
    have R9 := hO.blk (R8.alloc _) (by omega)
    have X9 := hO.blk (Blk.new w8 90 #[.string s, .int .i64 F, .int .i64 (F + u)]) (by omega)
    have hrx : w.heap.size < w8.heap.size := R8.lt
    have hg9 := hS9.lt
    clear hO hS8 O8 R8 hz
    have x0 := X9.c0
    have x1 := X9.c1
    have x2 := X9.c2
    have hx9 := X9.lt
    by_cases hz0 : z = 0
    focus
      subst hz0
      go_wp2_with fail
      refine (d_pick g n c w9.heap.size 3 a xs [F - 1, 730499, 730500] _ (hS9.below (below_alloc _ _)) (by omega) (by simp) (by omega) (by omega) (fun j hj => by
        match j, hj with
        | 0, _ => exact (Blk.new w9 _ _).cell 0
        | 1, _ => exact (Blk.new w9 _ _).cell 1
        | 2, _ => exact (Blk.new w9 _ _).cell 2)).mono ?_
      rintro e w10 ⟨⟨j, hj, rfl⟩, hS10, hO⟩
      have O10 := (O9.alloc _).trans hO
      have R10 := hO.blk (R9.alloc _) (by omega)
      have X10 := hO.blk (X9.alloc _) (by omega)
      have hy : -20 ≤ [F - 1, 730499, 730500].getD j 0 ∧ [F - 1, 730499, 730500].getD j 0 ≤ 4000000 := by
        match j, hj with
        | 0, _ => show -20 ≤ F - 1 ∧ F - 1 ≤ 4000000; omega
        | 1, _ => show -20 ≤ (730499 : Int) ∧ (730499 : Int) ≤ 4000000; omega
        | 2, _ => show -20 ≤ (730500 : Int) ∧ (730500 : Int) ≤ 4000000; omega
      obtain ⟨y, hyy⟩ : ∃ y, [F - 1, 730499, 730500].getD j 0 = y := ⟨_, rfl⟩
      rw [hyy] at hy ⊢
      clear hO hS9 O9 R9 X9 x0 x1 x2 hx9 hyy hj
      have x0 := X10.c0
      have x1 := X10.c1
      have x2 := X10.c2
      have v0 := X10.frozen 2
      have q0 := R10.c0
      have q1 := R10.c1
      have q2 := R10.c2
      have q3 := R10.frozen 0
      have q4 := R10.frozen 1
      have q5 := R10.frozen 2
      have hx10 := X10.lt
      have hr10 := R10.lt
      go_wp2_with fail
      refine bodyPost_ret (v := .agg #[.string s, .int .i64 F, .int .i64 y]) (by simp [results, Tryz.results131, go_sem, q0, q1, q2]) rfl ⟨⟨s, F, y, rfl, by first | omega | decide, by omega, by omega, by omega, by omega⟩, ?_, ?_⟩
      · exact ((((hS10.set2 H0.out (by omega) _ _).set2 H0.out (by omega) _ _).set2 H0.out (by omega) _ _).set2 H0.out (by omega) _ _)
      · exact ((((O10.set2 (by omega) _ _).set2 (by omega) _ _).set2 (by omega) _ _).set2 (by omega) _ _)
    rotate_left
    by_cases hz1' : z = 1
    focus
      subst hz1'
      clear hz0
      go_wp2_with fail
      refine (d_next _ _ _ _ _ _ _ (hS9.below (below_alloc w9 _))).mono ?_
      rintro e w10 ⟨⟨j, rfl, _, hj⟩, hS10, hO⟩
      have hj := hj (by omega)
      have O10 := (O9.alloc _).trans hO
      have R10 := hO.blk (R9.alloc _) (by omega)
      have X10 := hO.blk (X9.alloc _) (by omega)
      have S10 := hO.blk (Blk.new w9 _ _) (by omega)
      clear hO hS9 O9 R9 X9 x0 x1 x2 hx9
      have x0 := X10.c0
      have x1 := X10.c1
      have x2 := X10.c2
      have v0 := X10.frozen 0
      have k0 := S10.cell 0
      have k1 := S10.cell 1
      have k2 := S10.cell 2
      have hx10 := X10.lt
      have hs10 := S10.lt
      have q0 := R10.c0
      have q1 := R10.c1
      have q2 := R10.c2
      have q3 := R10.frozen 0
      have q4 := R10.frozen 1
      have q5 := R10.frozen 2
      have hr10 := R10.lt
      have hj3 : j = 0 ∨ j = 1 ∨ j = 2 := by omega
      rcases hj3 with rfl | rfl | rfl
      · go_wp2_with fail
        refine bodyPost_ret (v := .agg #[.string ⟨#[]⟩, .int .i64 F, .int .i64 (F + u)]) (by simp [results, Tryz.results131, go_sem, q0, q1, q2]) rfl ⟨⟨_, F, F + u, rfl, by decide, by omega, by omega, by omega, by omega⟩, ?_, ?_⟩
        · exact ((((hS10.set2 H0.out (by omega) _ _).set2 H0.out (by omega) _ _).set2 H0.out (by omega) _ _).set2 H0.out (by omega) _ _)
        · exact ((((O10.set2 (by omega) _ _).set2 (by omega) _ _).set2 (by omega) _ _).set2 (by omega) _ _)
      · go_wp2_with fail
        refine bodyPost_ret (v := .agg #[.string ⟨#[65, 100, 97, 109]⟩, .int .i64 F, .int .i64 (F + u)]) (by simp [results, Tryz.results131, go_sem, q0, q1, q2]) rfl ⟨⟨_, F, F + u, rfl, by decide, by omega, by omega, by omega, by omega⟩, ?_, ?_⟩
        · exact ((((hS10.set2 H0.out (by omega) _ _).set2 H0.out (by omega) _ _).set2 H0.out (by omega) _ _).set2 H0.out (by omega) _ _)
        · exact ((((O10.set2 (by omega) _ _).set2 (by omega) _ _).set2 (by omega) _ _).set2 (by omega) _ _)
      · go_wp2_with fail
        refine bodyPost_ret (v := .agg #[.string ⟨#[97, 98, 99, 100, 101, 102, 103, 104, 105, 106, 107, 108, 109]⟩, .int .i64 F, .int .i64 (F + u)]) (by simp [results, Tryz.results131, go_sem, q0, q1, q2]) rfl ⟨⟨_, F, F + u, rfl, by decide, by omega, by omega, by omega, by omega⟩, ?_, ?_⟩
        · exact ((((hS10.set2 H0.out (by omega) _ _).set2 H0.out (by omega) _ _).set2 H0.out (by omega) _ _).set2 H0.out (by omega) _ _)
        · exact ((((O10.set2 (by omega) _ _).set2 (by omega) _ _).set2 (by omega) _ _).set2 (by omega) _ _)
    rotate_left
    focus
      have q0 := R9.c0
      have q1 := R9.c1
      have q2 := R9.c2
      have q3 := R9.frozen 0
      have q4 := R9.frozen 1
      have q5 := R9.frozen 2
      have hr9 := R9.lt
      go_wp2_with fail
      refine bodyPost_ret (v := .agg #[.string s, .int .i64 F, .int .i64 (F + u)]) (by simp [results, Tryz.results131, go_sem, q0, q1, q2]) rfl ⟨⟨s, F, (F + u), rfl, by first | omega | decide, by omega, by omega, by omega, by omega⟩, ?_, ?_⟩
      · exact (((hS9.set2 H0.out (by omega) _ _).set2 H0.out (by omega) _ _).set2 H0.out (by omega) _ _)
      · exact (((O9.set2 (by omega) _ _).set2 (by omega) _ _).set2 (by omega) _ _)
end Go.Proofs.YtmpgokijlikddaaGreatDoor
/- strings.Join of few short texts with one letter between. Conditions: few short texts; how they lie. -/
namespace Go.Proofs.YtmpgokijlikddaaGreatDoor
open Go.RowKit Go.Shelf
theorem c_join {b : Nat} {v : Value} {xs : List (List UInt8)} (ch : UInt8) (w : World) (h : OwnS w b v xs) (hn : xs.length ≤ 1000) (hM : ∀ i, (xs.getD i []).length ≤ 1000) :
    Calls Tryz.prog 80 #[v, .string ⟨#[ch]⟩] w fun e w' => e = .returned (.string ⟨(Lib.join xs [ch]).toArray⟩) ∧ Below w.heap.size w w' := by
  obtain ⟨hl, A, c, hv, p⟩ := h.opened
  by_cases h0 : 0 < xs.length
  · obtain ⟨g, cc, rfl, _, hg, hcc, _, hcell, _⟩ := h.openedC h0
    have hlj := join_len1 xs ch 1000 hM xs.length (Nat.le_refl _)
    rw [List.take_length] at hlj
    have hmul : 1001 * xs.length ≤ 1001 * 1000 := Nat.mul_le_mul_left _ hn
    have e1 : (xs.map fun x => (⟨x.toArray⟩ : ByteArray)).map (·.data.toList) = xs := by rw [List.map_map]; exact (List.map_congr_left fun x _ => by simp).trans (List.map_id _)
    have key := Tryz.strings_Join g 0 cc (xs.map fun x => (⟨x.toArray⟩ : ByteArray)) ⟨#[ch]⟩ w (fun j x hx => by
      rw [List.getElem?_map, Option.map_eq_some_iff] at hx
      obtain ⟨y, hy, rfl⟩ := hx
      have hj := (List.getElem?_eq_some_iff.1 hy).1
      rw [Nat.zero_add, hcell j hj, List.getD_eq_getElem?_getD, hy]; rfl) hg (by simp; omega) (by simpa using hcc) (by rw [e1]; show (Lib.join xs [ch]).length ≤ _; omega)
    rw [e1, List.length_map] at key
    exact key
  · have : xs = [] := List.eq_nil_of_length_eq_zero (by omega)
    subst this
    subst hv
    refine (Tryz.strings_Join_none A c ⟨#[ch]⟩ w).mono fun e w' ⟨he, hw⟩ => ⟨he, by rw [hw]; exact Below.refl _ _⟩
end Go.Proofs.YtmpgokijlikddaaGreatDoor
/- The marks of years (indiction, epact, concurrent): the program's and the reference's functions return what the plain functions say. No condition. -/
namespace Go.Proofs.YtmpgokijlikddaaGreatDoor
open Go.RowKit
def indF (y : Int) : Int × Int := if inB y 1 2000 then ((y + 2) % 15 + 1, 0) else (0, 2)
def epF (y : Int) : Int × Int := if inB y 1 2000 then (11 * (y % 19) % 30, 0) else (0, 2)
def conc (y : Int) : Int := (num y 3 24 + 5 + 1) % 7 + 1
def concF (y : Int) : Int × Int := if inB y 1 2000 then (conc y, 0) else (0, 2)
theorem num324 (y : Int) (h0 : 1 ≤ y) (h1 : y ≤ 2000) : 0 ≤ num y 3 24 ∧ num y 3 24 ≤ 1000000 := by
  have := lp_01 y
  have h : cum y 3 = lp y + 59 := by simp [cum]
  unfold num nyear; omega
def markF (y : Int) : (Int × Int × Int) × Int := if inB y 1 2000 then (((y + 2) % 15 + 1, 11 * (y % 19) % 30, conc y), 0) else ((0, 0, 0), 2)
def isMarkB (i e c : Int) : Bool := decide ((0 ≤ i ∧ i ≤ 15) ∧ (-1 ≤ e ∧ e ≤ 29) ∧ (0 ≤ c ∧ c ≤ 7))
theorem isMarkB_iff {i e c : Int} : isMarkB i e c = true ↔ inB i 0 15 = true ∧ inB e (-1) 29 = true ∧ inB c 0 7 = true := by unfold isMarkB inB; simp
end Go.Proofs.YtmpgokijlikddaaGreatDoor
/- likeInts: equal lists are told equal. No condition. -/
namespace Go.Proofs.YtmpgokijlikddaaGreatDoor
open Go.RowKit
theorem OwnI.lit1 (w : World) (y : Int) : OwnI (w.alloc (.cells #[.int .i64 y] 2)) w.heap.size (.slice (some ⟨w.heap.size, 0, none⟩) 1 1) [y] := World.ownsRow_lit w #[.int .i64 y] 1 (Nat.le_refl _) (by unfold maxLen; omega) rfl
set_option maxHeartbeats 400000 in
theorem like_same {b1 b2 : Nat} {v1 v2 : Value} {xs : List Int} (w : World) (h1 : OwnI w b1 v1 xs) (h2 : OwnI w b2 v2 xs) :
    Calls Tryz.prog 22 #[v1, v2] w fun e w' => e = .returned (.bool true) ∧ Below w.heap.size w w' := by
  obtain ⟨hl, A1, c1, rfl, p1⟩ := h1.opened
  obtain ⟨_, A2, c2, rfl, p2⟩ := h2.opened
  clear h1 h2
  obtain ⟨n, hn⟩ : ∃ n, xs.length = n := ⟨_, rfl⟩
  rw [hn] at p1 p2 hl ⊢
  clear hn
  have P1 := Lib.hid p1; clear p1
  have P2 := Lib.hid p2; clear p2
  go_enter Tryz.func22, Tryz.ntmps22
  go_wp2
  go_loopw [5] (fun i wr => ∃ k : Nat, k ≤ n ∧ i = .int .i64 k ∧ ∃ q, wr = w.drewN q) (fun i _ => n - (intOf i).toNat)
  case atStart => exact ⟨0, by omega, rfl, 0, rfl⟩
  case round =>
    obtain ⟨k, hk, rfl, q, rfl⟩ := hrel
    by_cases hlt : k < n
    · obtain ⟨g1, rfl, _, _, hc1, _⟩ := P1.out (by omega)
      obtain ⟨g2, rfl, _, _, hc2, _⟩ := P2.out (by omega)
      have c1 := hc1 k hlt
      have c2 := hc2 k hlt
      clear hc1 hc2
      go_wp2_with fail
      go_quiet (fail)
      go_wp2
      go_roundw
      case rel => exact ⟨k + 1, by omega, by go_num, _, rfl⟩
      case measure => simp [intOf]; omega
    · go_wp2
      go_ret
      exact ⟨rfl, below_drew _ _⟩
end Go.Proofs.YtmpgokijlikddaaGreatDoor
