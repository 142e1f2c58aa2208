/- DoesHold: the program's and the reference's functions return what the plain law says. Conditions: lengths that a machine can hold; how the list lies. -/
import Derived.Test.YtmpgokijlikddaaGreatDoorHoldS
import Derived.Test.YtmpgokijlikddaaGreatDoorHoldI
import Derived.Test.YtmpgokijlikddaaGreatDoorClA
import Derived.Test.YtmpgokijlikddaaGreatDoorAreI
namespace Go.Proofs.YtmpgokijlikddaaGreatDoor
open Go.RowKit
/-- the code of reigns, a clause and a day -/
def cdF (rs : List RG) (q v m f r d s : Int) (k : ByteArray) (n : Int) : Int := if areB rs && clB q v m f r d s k then (if inB n 0 730499 then 0 else 2) else 1
theorem cd_1 {rs : List RG} {q v m f r d s : Int} {k : ByteArray} {n : Int} (h : areB rs = false) : cdF rs q v m f r d s k n = 1 := by unfold cdF; rw [h]; rfl
theorem cd_2 {rs : List RG} {q v m f r d s : Int} {k : ByteArray} {n : Int} (h : clB q v m f r d s k = false) : cdF rs q v m f r d s k n = 1 := by unfold cdF; rw [h, Bool.and_false]; rfl
theorem cd_3 {rs : List RG} {q v m f r d s : Int} {k : ByteArray} {n : Int} (h : areB rs = true) (h2 : clB q v m f r d s k = true) (h3 : inB n 0 730499 = false) : cdF rs q v m f r d s k n = 2 := by unfold cdF; rw [h, h2, h3]; rfl
theorem cd_0 {rs : List RG} {q v m f r d s : Int} {k : ByteArray} {n : Int} (h : areB rs = true) (h2 : clB q v m f r d s k = true) (h3 : inB n 0 730499 = true) : cdF rs q v m f r d s k n = 0 := by unfold cdF; rw [h, h2, h3]; rfl
theorem s_hold (g C : Nat) (rs : List RG) (q v m f r d s : Int) (k : ByteArray) (n : Int) (w : World) (hc : clB q v m f r d s k = true) (ha : areB rs = true) (h0 : 0 ≤ n) (h1 : n ≤ 730499) (hR : RowR w g rs.length rs) (hn : rs.length ≤ 1048576) :
    Calls Tryz.prog 95 #[.slice (some ⟨g, 0, none⟩) rs.length C, .agg #[.int .i64 q, .int .i64 v, .int .i64 m, .int .i64 f, .int .i64 r, .int .i64 d, .int .i64 s, .string k], .int .i64 n] w fun e w' => (∃ b, e = .returned (.bool b) ∧ (b = true ↔ hoP rs q v m f r d s k n)) ∧ Below w.heap.size w w' := by
  rcases cl_kind hc with rfl | rfl | rfl | rfl | rfl | rfl
  · exact s_ho0 _ _ _ v m f r d s k n w h0 h1
  · obtain ⟨⟨f0, f1⟩, d0, d1⟩ := cl_1 hc
    obtain ⟨kf, rfl⟩ : ∃ kf : Nat, f = kf := ⟨f.toNat, by omega⟩
    exact s_ho1 _ _ _ v m kf r d s k n w h0 h1 (by omega) d0 d1
  · exact s_ho2 g C rs v m f r d s k n w h0 h1 hR hn (fun j hj => are_open ha hj)
  · exact s_ho3 _ _ _ v m f r d s k n w h0 h1 (cl_3 hc)
  · exact s_ho4 _ _ _ v m f r d s k n w h0 h1 (cl_4 hc)
  · exact s_ho5 _ _ _ v m f r d s k n w h0 h1
theorem i_hold (g C : Nat) (rs : List RG) (q v m f r d s : Int) (k : ByteArray) (n : Int) (w : World) (hc : clB q v m f r d s k = true) (ha : areB rs = true) (h0 : 0 ≤ n) (h1 : n ≤ 730499) (hg : g < w.heap.size) (hR : RowR w g rs.length rs) (hn : rs.length ≤ 1048576) :
    Calls Tryz.prog 98 #[.slice (some ⟨g, 0, none⟩) rs.length C, .agg #[.int .i64 q, .int .i64 v, .int .i64 m, .int .i64 f, .int .i64 r, .int .i64 d, .int .i64 s, .string k], .int .i64 n] w fun e w' => (∃ b, e = .returned (.bool b) ∧ (b = true ↔ hoP rs q v m f r d s k n)) ∧ Below w.heap.size w w' := by
  rcases cl_kind hc with rfl | rfl | rfl | rfl | rfl | rfl
  · exact i_ho0 _ _ _ v m f r d s k n w h0 h1
  · obtain ⟨⟨f0, f1⟩, d0, d1⟩ := cl_1 hc
    obtain ⟨kf, rfl⟩ : ∃ kf : Nat, f = kf := ⟨f.toNat, by omega⟩
    exact i_ho1 _ _ _ v m kf r d s k n w h0 h1 (by omega) d0 d1
  · exact i_ho2 g C rs v m f r d s k n w h0 h1 hg hR hn (fun j hj => are_open ha hj)
  · exact i_ho3 _ _ _ v m f r d s k n w h0 h1 (cl_3 hc)
  · exact i_ho4 _ _ _ v m f r d s k n w h0 h1 (cl_4 hc)
  · exact i_ho5 _ _ _ v m f r d s k n w h0 h1
set_option maxRecDepth 100000 in
set_option maxHeartbeats 1000000 in
theorem s_code11 (g C : Nat) (rs : List RG) (q v m f r d s : Int) (k : ByteArray) (n : Int) (w : World) (hg : g < w.heap.size) (hR : RowR w g rs.length rs) (hn : rs.length ≤ 1048576) (hok : ∀ i, rgOk (rs.getD i rg0)) (hs : k.size ≤ 9223372036854775807) : Calls Tryz.prog 94 #[.slice (some ⟨g, 0, none⟩) rs.length C, .agg #[.int .i64 q, .int .i64 v, .int .i64 m, .int .i64 f, .int .i64 r, .int .i64 d, .int .i64 s, .string k], .int .i64 n] w fun e w' => e = .returned (.int .i64 (cdF rs q v m f r d s k n)) ∧ Below w.heap.size w w' := by
  have L0 := below_alloc w (.cells #[.int .i64 q, .int .i64 v, .int .i64 m, .int .i64 f, .int .i64 r, .int .i64 d, .int .i64 s, .string k] 55)
  have B0 := Blk.new w 55 #[.int .i64 q, .int .i64 v, .int .i64 m, .int .i64 f, .int .i64 r, .int .i64 d, .int .i64 s, .string k]
  have sa := fun W h => s_AreReigns g C rs W h hn hok
  have sc := fun W => s_cl q v m f r d s k W hs
  have R0 := hR.below L0 hg
  have e1 := @cd_1 rs q v m f r d s k n
  have e2 := @cd_2 rs q v m f r d s k n
  have e3 := @cd_3 rs q v m f r d s k n
  have e0 := @cd_0 rs q v m f r d s k n
  have hd := fun (b : Bool) (W : World) (h : inB n 0 730499 = b) => toB (s_day n W) h
  obtain ⟨X, hX⟩ : ∃ X, cdF rs q v m f r d s k n = X := ⟨_, rfl⟩
  obtain ⟨ba, hba⟩ : ∃ b, areB rs = b := ⟨_, rfl⟩
  obtain ⟨bc, hbc⟩ : ∃ b, clB q v m f r d s k = b := ⟨_, rfl⟩
  obtain ⟨bd, hbd⟩ : ∃ b, inB n 0 730499 = b := ⟨_, rfl⟩
  rw [hX] at e1 e2 e3 e0 ⊢
  rw [hba] at sa e1 e3 e0
  rw [hbc] at sc e2 e3 e0
  rw [hbd] at e3 e0
  have SA := Lib.hid (sa _ R0)
  have SC := Lib.hid sc
  have SD := Lib.hid (fun W => hd bd W hbd)
  clear sa sc hd hX hba hbc hbd R0
  obtain ⟨nn, hnn⟩ : ∃ nn, rs.length = nn := ⟨_, rfl⟩
  rw [hnn] at SA hn ⊢
  clear hnn hR hn hok hs
  cases ba with
  | false =>
    obtain rfl := e1 rfl
    clear e1 e2 e3 e0
    go_enter Tryz.func94, Tryz.ntmps94
    go_wp2_with fail
    refine SA.out.mono ?_
    rintro e w1 ⟨rfl, hb⟩
    have L1 := below_step L0 hb
    go_wp2_with fail
    go_ret
    exact ⟨rfl, L1⟩
  | true =>
    cases bc with
    | false =>
      obtain rfl := e2 rfl
      clear e1 e2 e3 e0
      go_enter Tryz.func94, Tryz.ntmps94
      go_wp2_with fail
      refine SA.out.mono ?_
      rintro e w1 ⟨rfl, hb⟩
      have L1 := below_step L0 hb
      have B1 := B0.below hb (by simp)
      have c0 : w1.cell? ⟨w.heap.size, 0, none⟩ = some (.int .i64 q) := B1.cell 0
      have c1 : w1.cell? ⟨w.heap.size, 1, none⟩ = some (.int .i64 v) := B1.cell 1
      have c2 : w1.cell? ⟨w.heap.size, 2, none⟩ = some (.int .i64 m) := B1.cell 2
      have c3 : w1.cell? ⟨w.heap.size, 3, none⟩ = some (.int .i64 f) := B1.cell 3
      have c4 : w1.cell? ⟨w.heap.size, 4, none⟩ = some (.int .i64 r) := B1.cell 4
      have c5 : w1.cell? ⟨w.heap.size, 5, none⟩ = some (.int .i64 d) := B1.cell 5
      have c6 : w1.cell? ⟨w.heap.size, 6, none⟩ = some (.int .i64 s) := B1.cell 6
      have c7 : w1.cell? ⟨w.heap.size, 7, none⟩ = some (.string k) := B1.cell 7
      have hzB1 := B1.lt
      go_wp2_with fail
      refine (SC.out _).mono ?_
      rintro e w2 ⟨rfl, hb⟩
      have L2 := below_step L1 hb
      go_wp2_with fail
      go_ret
      exact ⟨rfl, L2⟩
    | true =>
      cases bd with
      | false =>
        obtain rfl := e3 rfl rfl rfl
        clear e1 e2 e3 e0
        go_enter Tryz.func94, Tryz.ntmps94
        go_wp2_with fail
        refine SA.out.mono ?_
        rintro e w1 ⟨rfl, hb⟩
        have L1 := below_step L0 hb
        have B1 := B0.below hb (by simp)
        have c0 : w1.cell? ⟨w.heap.size, 0, none⟩ = some (.int .i64 q) := B1.cell 0
        have c1 : w1.cell? ⟨w.heap.size, 1, none⟩ = some (.int .i64 v) := B1.cell 1
        have c2 : w1.cell? ⟨w.heap.size, 2, none⟩ = some (.int .i64 m) := B1.cell 2
        have c3 : w1.cell? ⟨w.heap.size, 3, none⟩ = some (.int .i64 f) := B1.cell 3
        have c4 : w1.cell? ⟨w.heap.size, 4, none⟩ = some (.int .i64 r) := B1.cell 4
        have c5 : w1.cell? ⟨w.heap.size, 5, none⟩ = some (.int .i64 d) := B1.cell 5
        have c6 : w1.cell? ⟨w.heap.size, 6, none⟩ = some (.int .i64 s) := B1.cell 6
        have c7 : w1.cell? ⟨w.heap.size, 7, none⟩ = some (.string k) := B1.cell 7
        have hzB1 := B1.lt
        go_wp2_with fail
        refine (SC.out _).mono ?_
        rintro e w2 ⟨rfl, hb⟩
        have L2 := below_step L1 hb
        go_wp2_with fail
        refine (SD.out _).mono ?_
        rintro e w3 ⟨rfl, rfl⟩
        go_wp2_with fail
        go_ret
        exact ⟨rfl, L2⟩
      | true =>
        obtain rfl := e0 rfl rfl rfl
        clear e1 e2 e3 e0
        go_enter Tryz.func94, Tryz.ntmps94
        go_wp2_with fail
        refine SA.out.mono ?_
        rintro e w1 ⟨rfl, hb⟩
        have L1 := below_step L0 hb
        have B1 := B0.below hb (by simp)
        have c0 : w1.cell? ⟨w.heap.size, 0, none⟩ = some (.int .i64 q) := B1.cell 0
        have c1 : w1.cell? ⟨w.heap.size, 1, none⟩ = some (.int .i64 v) := B1.cell 1
        have c2 : w1.cell? ⟨w.heap.size, 2, none⟩ = some (.int .i64 m) := B1.cell 2
        have c3 : w1.cell? ⟨w.heap.size, 3, none⟩ = some (.int .i64 f) := B1.cell 3
        have c4 : w1.cell? ⟨w.heap.size, 4, none⟩ = some (.int .i64 r) := B1.cell 4
        have c5 : w1.cell? ⟨w.heap.size, 5, none⟩ = some (.int .i64 d) := B1.cell 5
        have c6 : w1.cell? ⟨w.heap.size, 6, none⟩ = some (.int .i64 s) := B1.cell 6
        have c7 : w1.cell? ⟨w.heap.size, 7, none⟩ = some (.string k) := B1.cell 7
        have hzB1 := B1.lt
        go_wp2_with fail
        refine (SC.out _).mono ?_
        rintro e w2 ⟨rfl, hb⟩
        have L2 := below_step L1 hb
        go_wp2_with fail
        refine (SD.out _).mono ?_
        rintro e w3 ⟨rfl, rfl⟩
        go_wp2_with fail
        go_ret
        exact ⟨rfl, L2⟩
set_option maxRecDepth 100000 in
set_option maxHeartbeats 1000000 in
theorem s_DoesHold (g C : Nat) (rs : List RG) (q v m f r d s : Int) (k : ByteArray) (n : Int) (w : World) (hg : g < w.heap.size) (hR : RowR w g rs.length rs) (hn : rs.length ≤ 1048576) (hok : ∀ i, rgOk (rs.getD i rg0)) (hs : k.size ≤ 9223372036854775807) : Calls Tryz.prog 28 #[.slice (some ⟨g, 0, none⟩) rs.length C, .agg #[.int .i64 q, .int .i64 v, .int .i64 m, .int .i64 f, .int .i64 r, .int .i64 d, .int .i64 s, .string k], .int .i64 n] w fun e w' => (∃ b, e = .returned (.tuple #[.bool b, .int .i64 (cdF rs q v m f r d s k n)]) ∧ (b = true ↔ (cdF rs q v m f r d s k n = 0 ∧ hoP rs q v m f r d s k n))) ∧ Below w.heap.size w w' := by
  have L0 := below_alloc w (.cells #[.int .i64 q, .int .i64 v, .int .i64 m, .int .i64 f, .int .i64 r, .int .i64 d, .int .i64 s, .string k] 55)
  have B0 := Blk.new w 55 #[.int .i64 q, .int .i64 v, .int .i64 m, .int .i64 f, .int .i64 r, .int .i64 d, .int .i64 s, .string k]
  have R0 := hR.below L0 hg
  have CON := Lib.hid (s_code11 g C rs q v m f r d s k n (w.alloc (.cells #[.int .i64 q, .int .i64 v, .int .i64 m, .int .i64 f, .int .i64 r, .int .i64 d, .int .i64 s, .string k] 55)) (by simp; omega) R0 hn hok hs)
  have H := Lib.hid (fun (hX : cdF rs q v m f r d s k n = 0) W (h : RowR W g rs.length rs) => (show Calls Tryz.prog 95 #[.slice (some ⟨g, 0, none⟩) rs.length C, .agg #[.int .i64 q, .int .i64 v, .int .i64 m, .int .i64 f, .int .i64 r, .int .i64 d, .int .i64 s, .string k], .int .i64 n] W fun e w' => (∃ b, e = .returned (.bool b) ∧ (b = true ↔ hoP rs q v m f r d s k n)) ∧ Below W.heap.size W w' from by
    unfold cdF at hX
    split at hX
    · rename_i hh
      rw [Bool.and_eq_true] at hh
      split at hX
      · rename_i hd
        obtain ⟨n0, n1⟩ := inB_iff.1 hd
        exact s_hold g C rs q v m f r d s k n W hh.2 hh.1 n0 n1 h hn
      · cases hX
    · cases hX))
  have HR := Lib.hid R0
  have hX : cdF rs q v m f r d s k n = 0 ∨ cdF rs q v m f r d s k n = 1 ∨ cdF rs q v m f r d s k n = 2 := by
    unfold cdF
    split
    · split
      · exact .inl rfl
      · exact .inr (.inr rfl)
    · exact .inr (.inl rfl)
  obtain ⟨X, hXX⟩ : ∃ X, cdF rs q v m f r d s k n = X := ⟨_, rfl⟩
  rw [hXX] at CON hX H ⊢
  obtain ⟨P, hP⟩ : ∃ P : Prop, hoP rs q v m f r d s k n = P := ⟨_, rfl⟩
  rw [hP] at H ⊢
  have HRB := Lib.hid (fun W (h : Below (w.alloc (.cells #[.int .i64 q, .int .i64 v, .int .i64 m, .int .i64 f, .int .i64 r, .int .i64 d, .int .i64 s, .string k] 55)).heap.size (w.alloc (.cells #[.int .i64 q, .int .i64 v, .int .i64 m, .int .i64 f, .int .i64 r, .int .i64 d, .int .i64 s, .string k] 55)) W) => HR.out.below h (by simp; omega))
  clear hR hn hok hs R0 HR hXX hP
  obtain ⟨nn, hnn⟩ : ∃ nn, rs.length = nn := ⟨_, rfl⟩
  rw [hnn] at CON H HRB ⊢
  clear hnn
  rcases hX with rfl | rfl | rfl
  · have H0 := Lib.hid (H.out rfl)
    clear H
    go_enter Tryz.func28, Tryz.ntmps28
    go_wp2_with fail
    refine CON.out.mono ?_
    rintro e w1 ⟨rfl, hb⟩
    have L1 := below_step L0 hb
    have R1 := HRB.out _ hb
    have B1 := B0.below hb (by simp)
    have c0 : w1.cell? ⟨w.heap.size, 0, none⟩ = some (.int .i64 q) := B1.cell 0
    have c1 : w1.cell? ⟨w.heap.size, 1, none⟩ = some (.int .i64 v) := B1.cell 1
    have c2 : w1.cell? ⟨w.heap.size, 2, none⟩ = some (.int .i64 m) := B1.cell 2
    have c3 : w1.cell? ⟨w.heap.size, 3, none⟩ = some (.int .i64 f) := B1.cell 3
    have c4 : w1.cell? ⟨w.heap.size, 4, none⟩ = some (.int .i64 r) := B1.cell 4
    have c5 : w1.cell? ⟨w.heap.size, 5, none⟩ = some (.int .i64 d) := B1.cell 5
    have c6 : w1.cell? ⟨w.heap.size, 6, none⟩ = some (.int .i64 s) := B1.cell 6
    have c7 : w1.cell? ⟨w.heap.size, 7, none⟩ = some (.string k) := B1.cell 7
    have hzB1 := B1.lt
    go_wp2_with fail
    refine (H0.out _ R1).mono ?_
    rintro e w2 ⟨⟨b, rfl, hb2⟩, hb⟩
    have L2 := below_step L1 hb
    go_wp2_with fail
    go_ret2
    exact ⟨⟨b, rfl, by simpa using hb2⟩, L2⟩
  · clear H HRB
    go_enter Tryz.func28, Tryz.ntmps28
    go_wp2_with fail
    refine CON.out.mono ?_
    rintro e w1 ⟨rfl, hb⟩
    have L1 := below_step L0 hb
    go_wp2_with fail
    go_ret2
    exact ⟨⟨false, rfl, by simp⟩, L1⟩
  · clear H HRB
    go_enter Tryz.func28, Tryz.ntmps28
    go_wp2_with fail
    refine CON.out.mono ?_
    rintro e w1 ⟨rfl, hb⟩
    have L1 := below_step L0 hb
    go_wp2_with fail
    go_ret2
    exact ⟨⟨false, rfl, by simp⟩, L1⟩
set_option maxRecDepth 100000 in
set_option maxHeartbeats 1000000 in
theorem i_DoesHold (g C : Nat) (rs : List RG) (q v m f r d s : Int) (k : ByteArray) (n : Int) (w : World) (hg : g < w.heap.size) (hR : RowR w g rs.length rs) (hn : rs.length ≤ 1048576) (hok : ∀ i, rgOk (rs.getD i rg0)) (hs : k.size ≤ 9223372036854775807) : Calls Tryz.prog 31 #[.slice (some ⟨g, 0, none⟩) rs.length C, .agg #[.int .i64 q, .int .i64 v, .int .i64 m, .int .i64 f, .int .i64 r, .int .i64 d, .int .i64 s, .string k], .int .i64 n] w fun e w' => (∃ b, e = .returned (.tuple #[.bool b, .int .i64 (cdF rs q v m f r d s k n)]) ∧ (b = true ↔ (cdF rs q v m f r d s k n = 0 ∧ hoP rs q v m f r d s k n))) ∧ Below w.heap.size w w' := by
  have L0 := below_alloc w (.cells #[.int .i64 q, .int .i64 v, .int .i64 m, .int .i64 f, .int .i64 r, .int .i64 d, .int .i64 s, .string k] 55)
  have B0 := Blk.new w 55 #[.int .i64 q, .int .i64 v, .int .i64 m, .int .i64 f, .int .i64 r, .int .i64 d, .int .i64 s, .string k]
  have R0 := hR.below L0 hg
  have sa := fun W h => i_AreReigns g C rs W h hn hok
  have sc := fun W => i_cl q v m f r d s k W hs
  have e1 := @cd_1 rs q v m f r d s k n
  have e2 := @cd_2 rs q v m f r d s k n
  have e3 := @cd_3 rs q v m f r d s k n
  have e0 := @cd_0 rs q v m f r d s k n
  have hd := fun (b : Bool) (W : World) (h : inB n 0 730499 = b) => toB (i_day n W) h
  have H := Lib.hid (fun (hX : cdF rs q v m f r d s k n = 0) W (hgW : g < W.heap.size) (h : RowR W g rs.length rs) => (show Calls Tryz.prog 98 #[.slice (some ⟨g, 0, none⟩) rs.length C, .agg #[.int .i64 q, .int .i64 v, .int .i64 m, .int .i64 f, .int .i64 r, .int .i64 d, .int .i64 s, .string k], .int .i64 n] W fun e w' => (∃ b, e = .returned (.bool b) ∧ (b = true ↔ hoP rs q v m f r d s k n)) ∧ Below W.heap.size W w' from by
    unfold cdF at hX
    split at hX
    · rename_i hh
      rw [Bool.and_eq_true] at hh
      split at hX
      · rename_i hd
        obtain ⟨n0, n1⟩ := inB_iff.1 hd
        exact i_hold g C rs q v m f r d s k n W hh.2 hh.1 n0 n1 hgW h hn
      · cases hX
    · cases hX))
  obtain ⟨X, hX⟩ : ∃ X, cdF rs q v m f r d s k n = X := ⟨_, rfl⟩
  obtain ⟨P, hP⟩ : ∃ P : Prop, hoP rs q v m f r d s k n = P := ⟨_, rfl⟩
  obtain ⟨ba, hba⟩ : ∃ b, areB rs = b := ⟨_, rfl⟩
  obtain ⟨bc, hbc⟩ : ∃ b, clB q v m f r d s k = b := ⟨_, rfl⟩
  obtain ⟨bd, hbd⟩ : ∃ b, inB n 0 730499 = b := ⟨_, rfl⟩
  rw [hX] at e1 e2 e3 e0 H ⊢
  rw [hP] at H ⊢
  rw [hba] at sa e1 e3 e0
  rw [hbc] at sc e2 e3 e0
  rw [hbd] at e3 e0
  have SA := Lib.hid sa
  have SC := Lib.hid sc
  have SD := Lib.hid (fun W => hd bd W hbd)
  have HRB := Lib.hid (fun W (h : Below (w.alloc (.cells #[.int .i64 q, .int .i64 v, .int .i64 m, .int .i64 f, .int .i64 r, .int .i64 d, .int .i64 s, .string k] 55)).heap.size (w.alloc (.cells #[.int .i64 q, .int .i64 v, .int .i64 m, .int .i64 f, .int .i64 r, .int .i64 d, .int .i64 s, .string k] 55)) W) => R0.below h (by simp; omega))
  clear sa sc hd hX hP hba hbc hbd R0 hR hn hok hs
  obtain ⟨nn, hnn⟩ : ∃ nn, rs.length = nn := ⟨_, rfl⟩
  rw [hnn] at SA HRB H ⊢
  clear hnn
  cases bc with
  | false =>
    obtain rfl := e2 rfl
    clear e1 e2 e3 e0 H
    go_enter Tryz.func31, Tryz.ntmps31
    go_wp2_with fail
    refine (SC.out _).mono ?_
    rintro e w1 ⟨rfl, hb⟩
    have L1 := below_step L0 hb
    go_wp2_with fail
    go_ret2
    exact ⟨⟨false, rfl, by simp⟩, L1⟩
  | true =>
    cases ba with
    | false =>
      obtain rfl := e1 rfl
      clear e1 e2 e3 e0 H
      go_enter Tryz.func31, Tryz.ntmps31
      go_wp2_with fail
      refine (SC.out _).mono ?_
      rintro e w1 ⟨rfl, hb⟩
      have L1 := below_step L0 hb
      have R1 := HRB.out _ hb
      go_wp2_with fail
      refine (SA.out _ R1).mono ?_
      rintro e w2 ⟨rfl, hb⟩
      have L2 := below_step L1 hb
      go_wp2_with fail
      go_ret2
      exact ⟨⟨false, rfl, by simp⟩, L2⟩
    | true =>
      cases bd with
      | false =>
        obtain rfl := e3 rfl rfl rfl
        clear e1 e2 e3 e0 H
        go_enter Tryz.func31, Tryz.ntmps31
        go_wp2_with fail
        refine (SC.out _).mono ?_
        rintro e w1 ⟨rfl, hb⟩
        have L1 := below_step L0 hb
        have R1 := HRB.out _ hb
        go_wp2_with fail
        refine (SA.out _ R1).mono ?_
        rintro e w2 ⟨rfl, hb⟩
        have L2 := below_step L1 hb
        go_wp2_with fail
        refine (SD.out _).mono ?_
        rintro e w3 ⟨rfl, rfl⟩
        go_wp2_with fail
        go_ret2
        exact ⟨⟨false, rfl, by simp⟩, L2⟩
      | true =>
        obtain rfl := e0 rfl rfl rfl
        have H0 := Lib.hid (H.out rfl)
        clear e1 e2 e3 e0 H
        go_enter Tryz.func31, Tryz.ntmps31
        go_wp2_with fail
        refine (SC.out _).mono ?_
        rintro e w1 ⟨rfl, hb⟩
        have L1 := below_step L0 hb
        have R1 := HRB.out _ hb
        have B1 := B0.below hb (by simp)
        have hgw1 : g < w1.heap.size := by have := hb.size; simp at this; omega
        clear hb
        go_wp2_with fail
        refine (SA.out _ R1).mono ?_
        rintro e w2 ⟨rfl, hb⟩
        have L2 := below_step L1 hb
        have R2 := R1.below hb hgw1
        have B2 := B1.below hb B1.lt
        have hgw2 := Nat.lt_of_lt_of_le hgw1 hb.size
        have c0 : w2.cell? ⟨w.heap.size, 0, none⟩ = some (.int .i64 q) := B2.cell 0
        have c1 : w2.cell? ⟨w.heap.size, 1, none⟩ = some (.int .i64 v) := B2.cell 1
        have c2 : w2.cell? ⟨w.heap.size, 2, none⟩ = some (.int .i64 m) := B2.cell 2
        have c3 : w2.cell? ⟨w.heap.size, 3, none⟩ = some (.int .i64 f) := B2.cell 3
        have c4 : w2.cell? ⟨w.heap.size, 4, none⟩ = some (.int .i64 r) := B2.cell 4
        have c5 : w2.cell? ⟨w.heap.size, 5, none⟩ = some (.int .i64 d) := B2.cell 5
        have c6 : w2.cell? ⟨w.heap.size, 6, none⟩ = some (.int .i64 s) := B2.cell 6
        have c7 : w2.cell? ⟨w.heap.size, 7, none⟩ = some (.string k) := B2.cell 7
        have hzB2 := B2.lt
        clear hb
        go_wp2_with fail
        refine (SD.out _).mono ?_
        rintro e w3 ⟨rfl, rfl⟩
        go_wp2_with fail
        refine (H0.out _ hgw2 R2).mono ?_
        rintro e w4 ⟨⟨b, rfl, hb2⟩, hb⟩
        have L4 := below_step L2 hb
        go_wp2_with fail
        go_ret2
        exact ⟨⟨b, rfl, by simpa using hb2⟩, L4⟩
end Go.Proofs.YtmpgokijlikddaaGreatDoor
