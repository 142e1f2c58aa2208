/- The program's DoesHold returns what the reference's returns, for all lists of reigns, clauses and days: the walk. No condition. -/
import Derived.Test.YtmpgokijlikddaaGreatDoorRows
import Derived.Test.YtmpgokijlikddaaGreatDoorKit
import Derived.Test.YtmpgokijlikddaaGreatDoorHoldF
import Derived.Test.YtmpgokijlikddaaGreatDoorRegL
import Derived.Test.YtmpgokijlikddaaGreatDoorClL
import Derived.Deep.RegionWith
namespace Go.Proofs.YtmpgokijlikddaaGreatDoor.fnExactDoesHold
open Go.RowKit
set_option linter.unusedVariables false
-- door
set_option linter.unusedSimpArgs false
set_option maxRecDepth 100000 in
set_option maxHeartbeats 4000000 in
theorem walk (a : Option Addr) (c : Nat) (rs : List RG) (hn : rs.length ≤ 9223372036854775807) {w : World} (hin : InR w a rs.length rs) (hx : ∀ i, rgOk (rs.getD i ([], 0, 0))) (q v m f r d s : Int) (k : ByteArray) (hs : k.size ≤ maxLen) (n : Int) (_ : (Lit.int .i64 n).wf = true) (_ : World) (_ : w.ShapedOpen Tryz.prog) : Calls Tryz.prog 4 #[.slice a rs.length c, .agg #[.int .i64 q, .int .i64 v, .int .i64 m, .int .i64 f, .int .i64 r, .int .i64 d, .int .i64 s, .string k], .int .i64 n] w fun e w' => e = .returned (.bool true) ∧ Below w.heap.size w w' := by
  have hs' : k.size ≤ 9223372036854775807 := hs
  clear hs
  have L0 := below_alloc w (.cells #[.int .i64 q, .int .i64 v, .int .i64 m, .int .i64 f, .int .i64 r, .int .i64 d, .int .i64 s, .string k] 50)
  have B0 := Blk.new w 50 #[.int .i64 q, .int .i64 v, .int .i64 m, .int .i64 f, .int .i64 r, .int .i64 d, .int .i64 s, .string k]
  have hz0 : w.heap.size < (w.alloc (.cells #[.int .i64 q, .int .i64 v, .int .i64 m, .int .i64 f, .int .i64 r, .int .i64 d, .int .i64 s, .string k] 50)).heap.size := by simp
  have con := l_szReignS' a c rs (w.alloc (.cells #[.int .i64 q, .int .i64 v, .int .i64 m, .int .i64 f, .int .i64 r, .int .i64 d, .int .i64 s, .string k] 50)) (hin.below L0) hn hx
  have con2 := fun W h h' => l_toReignP a c rs W h h'
  have con3 := fun g W (hg : g < W.heap.size) (h : RowR W g rs.length rs) h' => s_DoesHold g rs.length rs q v m f r d s k n W hg h h' hx hs'
  have con4 := fun g W (hg : g < W.heap.size) (h : RowR W g rs.length rs) h' => i_DoesHold g rs.length rs q v m f r d s k n W hg h h' hx hs'
  have con5 := fun g1 g2 W (h1 : RowR W g1 rs.length rs) (h2 : RowR W g2 rs.length rs) h' => l_eqReignS g1 g2 rs.length rs.length rs W h1 h2 h'
  have con6 := fun l W h0 h1 => l_szClause q v m f r d s k l W hs' h0 h1
  have con7 := fun W => l_toClause q v m f r d s k W
  have HI := Lib.hid (fun W (h : Below w.heap.size w W) => hin.below h)
  obtain ⟨X, hX⟩ : ∃ X, cdF rs q v m f r d s k n = X := ⟨_, rfl⟩
  obtain ⟨P, hP⟩ : ∃ P : Prop, hoP rs q v m f r d s k n = P := ⟨_, rfl⟩
  rw [hX, hP] at con3 con4
  have CON := Lib.hid con
  have CON2 := Lib.hid con2
  have CON3 := Lib.hid con3
  have CON4 := Lib.hid con4
  have CON5 := Lib.hid con5
  have CON6 := Lib.hid con6
  have CON7 := Lib.hid con7
  clear con con2 con3 con4 con5 con6 con7 hin hx hX hP
  obtain ⟨nn, hnn⟩ : ∃ nn, rs.length = nn := ⟨_, rfl⟩
  rw [hnn] at CON CON2 CON3 CON4 CON5 HI hn ⊢
  clear hnn
  go_enter Tryz.func4, Tryz.ntmps4
  go_wp2_with fail
  refine CON.out.mono ?_
  rintro e w1 ⟨⟨u, rfl, hu⟩, hb⟩
  have L1 := below_step L0 hb
  have B1 := B0.below hb hz0
  clear hb L0 B0 hz0 CON
  rcases hu with rfl | ⟨u0, u1, hn1⟩
  · go_wp2_with fail
    go_ret
    exact ⟨rfl, L1⟩
  · have hz1 := B1.lt
    have c0 : w1.cell? ⟨w.heap.size, 0, none⟩ = some (.int .i64 q) := B1.cell 0
    have c1 : w1.cell? ⟨w.heap.size, 1, none⟩ = some (.int .i64 v) := B1.cell 1
    have c2 : w1.cell? ⟨w.heap.size, 2, none⟩ = some (.int .i64 m) := B1.cell 2
    have c3 : w1.cell? ⟨w.heap.size, 3, none⟩ = some (.int .i64 f) := B1.cell 3
    have c4 : w1.cell? ⟨w.heap.size, 4, none⟩ = some (.int .i64 r) := B1.cell 4
    have c5 : w1.cell? ⟨w.heap.size, 5, none⟩ = some (.int .i64 d) := B1.cell 5
    have c6 : w1.cell? ⟨w.heap.size, 6, none⟩ = some (.int .i64 s) := B1.cell 6
    have c7 : w1.cell? ⟨w.heap.size, 7, none⟩ = some (.string k) := B1.cell 7
    have con6 := fun W => CON6.out u W u0 u1
    clear CON6
    by_cases hbig : u < (k.size : Int)
    · simp only [if_pos hbig] at con6
      have CON6 := Lib.hid con6
      clear con6 hbig
      go_wp2_with fail
      refine (CON6.out _).mono ?_
      rintro e w2 ⟨rfl, hb⟩
      have L2 := below_step L1 hb
      go_wp2_with fail
      go_ret
      exact ⟨rfl, L2⟩
    · simp only [if_neg hbig] at con6
      have CON6 := Lib.hid con6
      have hl : (0 : Int) ≤ u - (k.size : Int) := by omega
      have hn2 : nn ≤ 1048576 := by omega
      clear con6 hbig
      go_wp2_with fail
      refine (CON6.out _).mono ?_
      rintro e w2 ⟨rfl, hb⟩
      have L2 := below_step L1 hb
      have B2 := B1.below hb hz1
      have hz2 := B2.lt
      clear L1 B1 c0 c1 c2 c3 c4 c5 c6 c7 hz1 hb CON6
      have c0 : w2.cell? ⟨w.heap.size, 0, none⟩ = some (.int .i64 q) := B2.cell 0
      have c1 : w2.cell? ⟨w.heap.size, 1, none⟩ = some (.int .i64 v) := B2.cell 1
      have c2 : w2.cell? ⟨w.heap.size, 2, none⟩ = some (.int .i64 m) := B2.cell 2
      have c3 : w2.cell? ⟨w.heap.size, 3, none⟩ = some (.int .i64 f) := B2.cell 3
      have c4 : w2.cell? ⟨w.heap.size, 4, none⟩ = some (.int .i64 r) := B2.cell 4
      have c5 : w2.cell? ⟨w.heap.size, 5, none⟩ = some (.int .i64 d) := B2.cell 5
      have c6 : w2.cell? ⟨w.heap.size, 6, none⟩ = some (.int .i64 s) := B2.cell 6
      have c7 : w2.cell? ⟨w.heap.size, 7, none⟩ = some (.string k) := B2.cell 7
      go_wp2_with fail
      refine wp_region_any (by kernel_rfl) ?_
      change wpAny _ _ _ _ _ _ _ (World.drew _)
      refine wpAny_take (i := 0) (v := .slice a nn c) rfl (by kernel_rfl) (by kernel_rfl) (by kernel_rfl) (fun _ _ _ h => h) (Or.inl ⟨by kernel_rfl, fun W => by first | rfl | go_simp⟩) ?_
      simp only [Act.put, List.getElem_toArray, List.getElem_cons_succ, List.getElem_cons_zero, List.setIfInBounds_toArray, List.set_cons_succ, List.set_cons_zero]
      refine wpAny_take (i := 4) (v := .int .i64 n) rfl (by kernel_rfl) (by kernel_rfl) (by kernel_rfl) (fun _ _ _ h => h) (Or.inl ⟨by kernel_rfl, fun W => by first | rfl | go_simp⟩) ?_
      simp only [Act.put, List.getElem_toArray, List.getElem_cons_succ, List.getElem_cons_zero, List.setIfInBounds_toArray, List.set_cons_succ, List.set_cons_zero]
      refine wpAny_ready (rs := [1, 2]) (by kernel_rfl) (by simp) ?_
      refine AllReady.cons rfl (fun K hK => ?_) (AllReady.cons rfl (fun K hK => ?_) AllReady.nil)
      · go_simp
        go_at_call 29
        refine (CON2.out _ (HI.out _ L2.drew) hn2).mono ?_
        rintro e w3 ⟨rfl, ho3, hz3, hb3⟩
        have hb3u : Below w2.heap.size w2 w3 := below_undrew hb3
        have L3 := below_step L2 hb3u
        have B3 := B2.below hb3u hz2
        have hz3b := B3.lt
        have c0 : w3.cell? ⟨w.heap.size, 0, none⟩ = some (.int .i64 q) := B3.cell 0
        have c1 : w3.cell? ⟨w.heap.size, 1, none⟩ = some (.int .i64 v) := B3.cell 1
        have c2 : w3.cell? ⟨w.heap.size, 2, none⟩ = some (.int .i64 m) := B3.cell 2
        have c3 : w3.cell? ⟨w.heap.size, 3, none⟩ = some (.int .i64 f) := B3.cell 3
        have c4 : w3.cell? ⟨w.heap.size, 4, none⟩ = some (.int .i64 r) := B3.cell 4
        have c5 : w3.cell? ⟨w.heap.size, 5, none⟩ = some (.int .i64 d) := B3.cell 5
        have c6 : w3.cell? ⟨w.heap.size, 6, none⟩ = some (.int .i64 s) := B3.cell 6
        have c7 : w3.cell? ⟨w.heap.size, 7, none⟩ = some (.string k) := B3.cell 7
        replace hz3 : w2.heap.size < w3.heap.size := hz3
        refine hK _ _ ?_
        clear hK K
        refine wpAny_ready (rs := [2]) (by kernel_rfl) (by simp) ?_
        refine AllReady.cons rfl (fun K hK => ?_) AllReady.nil
        go_simp
        refine hK _ _ ?_
        clear hK K
        refine wpAny_ready (rs := [3]) (by kernel_rfl) (by simp) ?_
        refine AllReady.cons rfl (fun K hK => ?_) AllReady.nil
        go_simp
        go_at_call 30
        refine (CON7.out _).mono ?_
        rintro e w4 ⟨rfl, hb4⟩
        have L4 := below_step L3 hb4
        have B4 := B3.below hb4 hz3b
        have hg4 : w2.heap.size < w4.heap.size := Nat.lt_of_lt_of_le hz3 hb4.size
        have ho4 := ho3.row.below hb4 hz3
        refine hK _ _ ?_
        clear hK K
        refine wpAny_ready (rs := [5]) (by kernel_rfl) (by simp) ?_
        refine AllReady.cons rfl (fun K hK => ?_) AllReady.nil
        go_simp
        go_at_call 28
        refine (CON3.out _ _ hg4 ho4 hn2).mono ?_
        rintro e w5 ⟨⟨b1, rfl, hb1⟩, hb5⟩
        have L5 := below_step L4 hb5
        have B5 := B4.below hb5 B4.lt
        refine hK _ _ ?_
        clear hK K
        refine wpAny_take (i := 6) (v := .tuple #[.bool b1, .int .i64 X]) rfl (by kernel_rfl) (by kernel_rfl) (by kernel_rfl) (fun _ _ _ h => h) (Or.inl ⟨by kernel_rfl, fun W => by first | rfl | go_simp⟩) ?_
        simp only [Act.put, List.getElem_toArray, List.getElem_cons_succ, List.getElem_cons_zero, List.setIfInBounds_toArray, List.set_cons_succ, List.set_cons_zero]
        refine wpAny_take (i := 7) (v := .bool b1) rfl (by kernel_rfl) (by kernel_rfl) (by kernel_rfl) (fun _ _ _ h => h) (Or.inl ⟨by kernel_rfl, fun W => by first | rfl | go_simp⟩) ?_
        simp only [Act.put, List.getElem_toArray, List.getElem_cons_succ, List.getElem_cons_zero, List.setIfInBounds_toArray, List.set_cons_succ, List.set_cons_zero]
        refine wpAny_take (i := 8) (v := .int .i64 X) rfl (by kernel_rfl) (by kernel_rfl) (by kernel_rfl) (fun _ _ _ h => h) (Or.inl ⟨by kernel_rfl, fun W => by first | rfl | go_simp⟩) ?_
        simp only [Act.put, List.getElem_toArray, List.getElem_cons_succ, List.getElem_cons_zero, List.setIfInBounds_toArray, List.set_cons_succ, List.set_cons_zero]
        refine wpAny_take (i := 9) (v := .bool b1) rfl (by kernel_rfl) (by kernel_rfl) (by kernel_rfl) (fun _ _ _ h => h) (Or.inl ⟨by kernel_rfl, fun W => by first | rfl | go_simp⟩) ?_
        simp only [Act.put, List.getElem_toArray, List.getElem_cons_succ, List.getElem_cons_zero, List.setIfInBounds_toArray, List.set_cons_succ, List.set_cons_zero]
        refine wpAny_take (i := 10) (v := .int .i64 X) rfl (by kernel_rfl) (by kernel_rfl) (by kernel_rfl) (fun _ _ _ h => h) (Or.inl ⟨by kernel_rfl, fun W => by first | rfl | go_simp⟩) ?_
        simp only [Act.put, List.getElem_toArray, List.getElem_cons_succ, List.getElem_cons_zero, List.setIfInBounds_toArray, List.set_cons_succ, List.set_cons_zero]
        refine wpAny_done (by kernel_rfl) ?_ _
        try simp only [List.getElem_toArray, List.getElem_cons_succ, List.getElem_cons_zero, List.setIfInBounds_toArray, List.set_cons_succ, List.set_cons_zero]
        clear c0 c1 c2 c3 c4 c5 c6 c7
        have hz5 := B5.lt
        clear L2 L3 L4 B2 B3 B4 hb3 hb3u hb4 hb5 ho3 ho4 CON3 hz2 hz3 hz3b hg4
        have c0 : w5.cell? ⟨w.heap.size, 0, none⟩ = some (.int .i64 q) := B5.cell 0
        have c1 : w5.cell? ⟨w.heap.size, 1, none⟩ = some (.int .i64 v) := B5.cell 1
        have c2 : w5.cell? ⟨w.heap.size, 2, none⟩ = some (.int .i64 m) := B5.cell 2
        have c3 : w5.cell? ⟨w.heap.size, 3, none⟩ = some (.int .i64 f) := B5.cell 3
        have c4 : w5.cell? ⟨w.heap.size, 4, none⟩ = some (.int .i64 r) := B5.cell 4
        have c5 : w5.cell? ⟨w.heap.size, 5, none⟩ = some (.int .i64 d) := B5.cell 5
        have c6 : w5.cell? ⟨w.heap.size, 6, none⟩ = some (.int .i64 s) := B5.cell 6
        have c7 : w5.cell? ⟨w.heap.size, 7, none⟩ = some (.string k) := B5.cell 7
        go_wp2_with fail
        refine (CON2.out _ (HI.out _ L5) hn2).mono ?_
        rintro e w6 ⟨rfl, ho6, hz6, hb6⟩
        have L6 := below_step L5 hb6
        have B6 := B5.below hb6 hz5
        have hz6b := B6.lt
        clear c0 c1 c2 c3 c4 c5 c6 c7 B5 hb6
        have c0 : w6.cell? ⟨w.heap.size, 0, none⟩ = some (.int .i64 q) := B6.cell 0
        have c1 : w6.cell? ⟨w.heap.size, 1, none⟩ = some (.int .i64 v) := B6.cell 1
        have c2 : w6.cell? ⟨w.heap.size, 2, none⟩ = some (.int .i64 m) := B6.cell 2
        have c3 : w6.cell? ⟨w.heap.size, 3, none⟩ = some (.int .i64 f) := B6.cell 3
        have c4 : w6.cell? ⟨w.heap.size, 4, none⟩ = some (.int .i64 r) := B6.cell 4
        have c5 : w6.cell? ⟨w.heap.size, 5, none⟩ = some (.int .i64 d) := B6.cell 5
        have c6 : w6.cell? ⟨w.heap.size, 6, none⟩ = some (.int .i64 s) := B6.cell 6
        have c7 : w6.cell? ⟨w.heap.size, 7, none⟩ = some (.string k) := B6.cell 7
        go_wp2_with fail
        refine (CON7.out _).mono ?_
        rintro e w7 ⟨rfl, hb7⟩
        have L7 := below_step L6 hb7
        have B7 := B6.below hb7 hz6b
        have ho7 := ho6.below hb7 hz6
        have hg7 := Nat.lt_of_lt_of_le hz6 hb7.size
        clear hb7 ho6 B6 c0 c1 c2 c3 c4 c5 c6 c7
        go_wp2_with fail
        refine (CON4.out _ _ hg7 ho7.row hn2).mono ?_
        rintro e w8 ⟨⟨b2, rfl, hb2⟩, hb8⟩
        obtain rfl : b2 = b1 := Bool.eq_iff_iff.2 (hb2.trans hb1.symm)
        have L8 := below_step L7 hb8
        have ho8 := ho7.below hb8 hg7
        have hg8 := Nat.lt_of_lt_of_le hg7 hb8.size
        clear hb8 ho7 hb1 hb2 L5 L6 L7
        cases b2
        all_goals (as_aux_lemma =>
          go_wp2_with fail
          refine (CON2.out _ (HI.out _ L8) hn2).mono ?_
          rintro e w9 ⟨rfl, ho9, hz9, hb9⟩
          have L9 := below_step L8 hb9
          have ho9b := ho8.below hb9 hg8
          go_wp2_with fail
          refine (CON5.out _ _ _ ho9b.row ho9.row hn2).mono ?_
          rintro e w10 ⟨rfl, hb10⟩
          have L10 := below_step L9 hb10
          go_wp2_with fail
          go_ret
          exact ⟨rfl, L10⟩)
      · go_simp
        refine hK _ _ ?_
        clear hK K
        refine wpAny_ready (rs := [1]) (by kernel_rfl) (by simp) ?_
        refine AllReady.cons rfl (fun K hK => ?_) AllReady.nil
        go_simp
        go_at_call 29
        refine (CON2.out _ (HI.out _ L2.drew) hn2).mono ?_
        rintro e w3 ⟨rfl, ho3, hz3, hb3⟩
        have hb3u : Below w2.heap.size w2 w3 := below_undrew hb3
        have L3 := below_step L2 hb3u
        have B3 := B2.below hb3u hz2
        have hz3b := B3.lt
        have c0 : w3.cell? ⟨w.heap.size, 0, none⟩ = some (.int .i64 q) := B3.cell 0
        have c1 : w3.cell? ⟨w.heap.size, 1, none⟩ = some (.int .i64 v) := B3.cell 1
        have c2 : w3.cell? ⟨w.heap.size, 2, none⟩ = some (.int .i64 m) := B3.cell 2
        have c3 : w3.cell? ⟨w.heap.size, 3, none⟩ = some (.int .i64 f) := B3.cell 3
        have c4 : w3.cell? ⟨w.heap.size, 4, none⟩ = some (.int .i64 r) := B3.cell 4
        have c5 : w3.cell? ⟨w.heap.size, 5, none⟩ = some (.int .i64 d) := B3.cell 5
        have c6 : w3.cell? ⟨w.heap.size, 6, none⟩ = some (.int .i64 s) := B3.cell 6
        have c7 : w3.cell? ⟨w.heap.size, 7, none⟩ = some (.string k) := B3.cell 7
        replace hz3 : w2.heap.size < w3.heap.size := hz3
        refine hK _ _ ?_
        clear hK K
        refine wpAny_ready (rs := [3]) (by kernel_rfl) (by simp) ?_
        refine AllReady.cons rfl (fun K hK => ?_) AllReady.nil
        go_simp
        go_at_call 30
        refine (CON7.out _).mono ?_
        rintro e w4 ⟨rfl, hb4⟩
        have L4 := below_step L3 hb4
        have B4 := B3.below hb4 hz3b
        have hg4 : w2.heap.size < w4.heap.size := Nat.lt_of_lt_of_le hz3 hb4.size
        have ho4 := ho3.row.below hb4 hz3
        refine hK _ _ ?_
        clear hK K
        refine wpAny_ready (rs := [5]) (by kernel_rfl) (by simp) ?_
        refine AllReady.cons rfl (fun K hK => ?_) AllReady.nil
        go_simp
        go_at_call 28
        refine (CON3.out _ _ hg4 ho4 hn2).mono ?_
        rintro e w5 ⟨⟨b1, rfl, hb1⟩, hb5⟩
        have L5 := below_step L4 hb5
        have B5 := B4.below hb5 B4.lt
        refine hK _ _ ?_
        clear hK K
        refine wpAny_take (i := 6) (v := .tuple #[.bool b1, .int .i64 X]) rfl (by kernel_rfl) (by kernel_rfl) (by kernel_rfl) (fun _ _ _ h => h) (Or.inl ⟨by kernel_rfl, fun W => by first | rfl | go_simp⟩) ?_
        simp only [Act.put, List.getElem_toArray, List.getElem_cons_succ, List.getElem_cons_zero, List.setIfInBounds_toArray, List.set_cons_succ, List.set_cons_zero]
        refine wpAny_take (i := 7) (v := .bool b1) rfl (by kernel_rfl) (by kernel_rfl) (by kernel_rfl) (fun _ _ _ h => h) (Or.inl ⟨by kernel_rfl, fun W => by first | rfl | go_simp⟩) ?_
        simp only [Act.put, List.getElem_toArray, List.getElem_cons_succ, List.getElem_cons_zero, List.setIfInBounds_toArray, List.set_cons_succ, List.set_cons_zero]
        refine wpAny_take (i := 8) (v := .int .i64 X) rfl (by kernel_rfl) (by kernel_rfl) (by kernel_rfl) (fun _ _ _ h => h) (Or.inl ⟨by kernel_rfl, fun W => by first | rfl | go_simp⟩) ?_
        simp only [Act.put, List.getElem_toArray, List.getElem_cons_succ, List.getElem_cons_zero, List.setIfInBounds_toArray, List.set_cons_succ, List.set_cons_zero]
        refine wpAny_take (i := 9) (v := .bool b1) rfl (by kernel_rfl) (by kernel_rfl) (by kernel_rfl) (fun _ _ _ h => h) (Or.inl ⟨by kernel_rfl, fun W => by first | rfl | go_simp⟩) ?_
        simp only [Act.put, List.getElem_toArray, List.getElem_cons_succ, List.getElem_cons_zero, List.setIfInBounds_toArray, List.set_cons_succ, List.set_cons_zero]
        refine wpAny_take (i := 10) (v := .int .i64 X) rfl (by kernel_rfl) (by kernel_rfl) (by kernel_rfl) (fun _ _ _ h => h) (Or.inl ⟨by kernel_rfl, fun W => by first | rfl | go_simp⟩) ?_
        simp only [Act.put, List.getElem_toArray, List.getElem_cons_succ, List.getElem_cons_zero, List.setIfInBounds_toArray, List.set_cons_succ, List.set_cons_zero]
        refine wpAny_done (by kernel_rfl) ?_ _
        try simp only [List.getElem_toArray, List.getElem_cons_succ, List.getElem_cons_zero, List.setIfInBounds_toArray, List.set_cons_succ, List.set_cons_zero]
        clear c0 c1 c2 c3 c4 c5 c6 c7
        have hz5 := B5.lt
        clear L2 L3 L4 B2 B3 B4 hb3 hb3u hb4 hb5 ho3 ho4 CON3 hz2 hz3 hz3b hg4
        have c0 : w5.cell? ⟨w.heap.size, 0, none⟩ = some (.int .i64 q) := B5.cell 0
        have c1 : w5.cell? ⟨w.heap.size, 1, none⟩ = some (.int .i64 v) := B5.cell 1
        have c2 : w5.cell? ⟨w.heap.size, 2, none⟩ = some (.int .i64 m) := B5.cell 2
        have c3 : w5.cell? ⟨w.heap.size, 3, none⟩ = some (.int .i64 f) := B5.cell 3
        have c4 : w5.cell? ⟨w.heap.size, 4, none⟩ = some (.int .i64 r) := B5.cell 4
        have c5 : w5.cell? ⟨w.heap.size, 5, none⟩ = some (.int .i64 d) := B5.cell 5
        have c6 : w5.cell? ⟨w.heap.size, 6, none⟩ = some (.int .i64 s) := B5.cell 6
        have c7 : w5.cell? ⟨w.heap.size, 7, none⟩ = some (.string k) := B5.cell 7
        go_wp2_with fail
        refine (CON2.out _ (HI.out _ L5) hn2).mono ?_
        rintro e w6 ⟨rfl, ho6, hz6, hb6⟩
        have L6 := below_step L5 hb6
        have B6 := B5.below hb6 hz5
        have hz6b := B6.lt
        clear c0 c1 c2 c3 c4 c5 c6 c7 B5 hb6
        have c0 : w6.cell? ⟨w.heap.size, 0, none⟩ = some (.int .i64 q) := B6.cell 0
        have c1 : w6.cell? ⟨w.heap.size, 1, none⟩ = some (.int .i64 v) := B6.cell 1
        have c2 : w6.cell? ⟨w.heap.size, 2, none⟩ = some (.int .i64 m) := B6.cell 2
        have c3 : w6.cell? ⟨w.heap.size, 3, none⟩ = some (.int .i64 f) := B6.cell 3
        have c4 : w6.cell? ⟨w.heap.size, 4, none⟩ = some (.int .i64 r) := B6.cell 4
        have c5 : w6.cell? ⟨w.heap.size, 5, none⟩ = some (.int .i64 d) := B6.cell 5
        have c6 : w6.cell? ⟨w.heap.size, 6, none⟩ = some (.int .i64 s) := B6.cell 6
        have c7 : w6.cell? ⟨w.heap.size, 7, none⟩ = some (.string k) := B6.cell 7
        go_wp2_with fail
        refine (CON7.out _).mono ?_
        rintro e w7 ⟨rfl, hb7⟩
        have L7 := below_step L6 hb7
        have B7 := B6.below hb7 hz6b
        have ho7 := ho6.below hb7 hz6
        have hg7 := Nat.lt_of_lt_of_le hz6 hb7.size
        clear hb7 ho6 B6 c0 c1 c2 c3 c4 c5 c6 c7
        go_wp2_with fail
        refine (CON4.out _ _ hg7 ho7.row hn2).mono ?_
        rintro e w8 ⟨⟨b2, rfl, hb2⟩, hb8⟩
        obtain rfl : b2 = b1 := Bool.eq_iff_iff.2 (hb2.trans hb1.symm)
        have L8 := below_step L7 hb8
        have ho8 := ho7.below hb8 hg7
        have hg8 := Nat.lt_of_lt_of_le hg7 hb8.size
        clear hb8 ho7 hb1 hb2 L5 L6 L7
        cases b2
        all_goals (as_aux_lemma =>
          go_wp2_with fail
          refine (CON2.out _ (HI.out _ L8) hn2).mono ?_
          rintro e w9 ⟨rfl, ho9, hz9, hb9⟩
          have L9 := below_step L8 hb9
          have ho9b := ho8.below hb9 hg8
          go_wp2_with fail
          refine (CON5.out _ _ _ ho9b.row ho9.row hn2).mono ?_
          rintro e w10 ⟨rfl, hb10⟩
          have L10 := below_step L9 hb10
          go_wp2_with fail
          go_ret
          exact ⟨rfl, L10⟩)
end Go.Proofs.YtmpgokijlikddaaGreatDoor.fnExactDoesHold
