/- The source of the draws: it hands out numbers of a range; nothing else is written. Conditions: how the code and the source lie. -/
import Derived.Test.YtmpgokijlikddaaGreatDoorMem
import Derived.Test.YtmpgokijlikddaaGreatDoorBlk
namespace Go.Proofs.YtmpgokijlikddaaGreatDoor
open Go.RowKit
/-- nothing has turned but block g and what is new -/
structure Off (g : Nat) (w w' : World) : Prop where
  os : w'.os = w.os
  tape : w'.tape = w.tape
  output : w'.output = w.output
  size : w.heap.size ≤ w'.heap.size
  block : ∀ b, b < w.heap.size → b ≠ g → w'.heap[b]? = w.heap[b]?
theorem Off.refl (g : Nat) (w : World) : Off g w w := ⟨rfl, rfl, rfl, Nat.le_refl _, fun _ _ _ => rfl⟩
theorem Off.trans {g : Nat} {a b c : World} (h : Off g a b) (k : Off g b c) : Off g a c :=
  ⟨k.os.trans h.os, k.tape.trans h.tape, k.output.trans h.output, Nat.le_trans h.size k.size, fun i hi hn => (k.block i (Nat.lt_of_lt_of_le hi h.size) hn).trans (h.block i hi hn)⟩
theorem Off.of {g : Nat} {w w' : World} (h : Below w.heap.size w w') : Off g w w' := ⟨h.os, h.tape, h.output, h.size, fun b hb _ => h.block b hb⟩
theorem Off.below {g B : Nat} {a w w' : World} (h : Below B a w) (k : Off g w w') (hB : B ≤ w.heap.size) (hg : B ≤ g) : Below B a w' :=
  ⟨k.os.trans h.os, k.tape.trans h.tape, k.output.trans h.output, Nat.le_trans h.size k.size, fun b hb => (k.block b (Nat.lt_of_lt_of_le hb hB) (by omega)).trans (h.block b hb)⟩
theorem Off.set {g : Nat} {w w' : World} (h : Off g w w') (i : Nat) (u : Value) : Off g w (w'.setCell ⟨g, i, none⟩ u) :=
  ⟨h.os, h.tape, h.output, by simpa using h.size, fun b hb hn => (Below.heap_setCell w' ⟨g, i, none⟩ u b hn).trans (h.block b hb hn)⟩
theorem Off.alloc {g : Nat} {w w' : World} (h : Off g w w') (o : Obj) : Off g w (w'.alloc o) := h.trans (Off.of (below_alloc w' o))
theorem Off.drewN {g : Nat} {w w' : World} (h : Off g w w') (n : Nat) : Off g w (w'.drewN n) := ⟨h.os, h.tape, h.output, h.size, h.block⟩
theorem Off.blk {g b : Nat} {w w' : World} {t : TypeId} {cs : Array Value} (h : Off g w w') (hb : Blk w b t cs) (hn : b ≠ g) : Blk w' b t cs := (h.block b hb.lt hn).trans hb
theorem Off.cell {g b : Nat} {w w' : World} (h : Off g w w') (hb : b < w.heap.size) (hn : b ≠ g) (o : Nat) : w'.cell? ⟨b, o, none⟩ = w.cell? ⟨b, o, none⟩ := by
  have := h.block b hb hn
  unfold World.cell?
  simp only [this]
theorem InB.off {g : Nat} {w w' : World} {p : Option Addr} {n : Nat} {xs : List Int} (h : InB w p n xs) (k : Off g w w') (hne : 0 < n → ∀ b o, p = some ⟨b, o, none⟩ → b ≠ g) : InB w' p n xs := fun hn => by
  obtain ⟨b, o, e, hlt, hc⟩ := h hn
  exact ⟨b, o, e, Nat.lt_of_lt_of_le hlt k.size, fun i hi => (k.cell hlt (hne hn b o e) _).trans (hc i hi)⟩
/-- the source lies in block g, over the code of n bytes at a -/
def Src (w : World) (g : Nat) (a : Option Addr) (n c : Nat) (xs : List Int) : Prop :=
  (∃ (k : Nat) (sd : Int), Blk w g 127 #[.slice a n c, .int .i64 k, .int .i64 sd] ∧ k ≤ n ∧ 0 ≤ sd ∧ sd < 2147483647) ∧ InB w a n xs ∧ (0 < n → ∀ b o, a = some ⟨b, o, none⟩ → b ≠ g) ∧ n ≤ 4096 ∧ ∀ i, 0 ≤ xs.getD i 0 ∧ xs.getD i 0 ≤ 255
theorem Src.lt {w : World} {g n c : Nat} {a : Option Addr} {xs : List Int} (h : Src w g a n c xs) : g < w.heap.size := by
  obtain ⟨⟨k, sd, hb, _⟩, _⟩ := h
  exact hb.lt
theorem Src.below {w w' : World} {g n c : Nat} {a : Option Addr} {xs : List Int} (h : Src w g a n c xs) (hb : Below w.heap.size w w') : Src w' g a n c xs := by
  obtain ⟨⟨k, sd, hB, h1⟩, h2, h3⟩ := h
  exact ⟨⟨k, sd, hB.below hb hB.lt, h1⟩, h2.below hb, h3⟩
theorem src_after {w w' : World} {g n c : Nat} {a : Option Addr} {xs : List Int} {k' sd' : Int} (hI : InB w a n xs) (hne : 0 < n → ∀ b o, a = some ⟨b, o, none⟩ → b ≠ g) (hn : n ≤ 4096) (hx : ∀ i, 0 ≤ xs.getD i 0 ∧ xs.getD i 0 ≤ 255)
    (hoff : Off g w w') (hb : Blk w' g 127 #[.slice a n c, .int .i64 k', .int .i64 sd']) (h0 : 0 ≤ k') (h1 : k' ≤ n) (s0 : 0 ≤ sd') (s1 : sd' < 2147483647) : Src w' g a n c xs :=
  ⟨⟨k'.toNat, sd', hb.to (by rw [Int.toNat_of_nonneg h0]), by omega, s0, s1⟩, hI.off hoff hne, hne, hn, hx⟩
theorem ret_mod {x m : Int} (hm : 1 < m) : ∃ r, Ending.returned (.int .i64 (x % m)) = .returned (.int .i64 r) ∧ (m ≤ 1 → r = 0) ∧ (1 < m → 0 ≤ r ∧ r < m) :=
  ⟨_, rfl, fun h => by omega, fun _ => ⟨Int.emod_nonneg _ (by omega), Int.emod_lt_of_pos _ (by omega)⟩⟩
set_option maxRecDepth 100000 in
set_option maxHeartbeats 1000000 in
theorem d_next (g n c : Nat) (a : Option Addr) (xs : List Int) (m : Int) (w : World) (hS : Src w g a n c xs) : Calls Tryz.prog 65 #[.pointer (some ⟨g, 0, none⟩), .int .i64 m] w fun e w' =>
    (∃ r, e = .returned (.int .i64 r) ∧ (m ≤ 1 → r = 0) ∧ (1 < m → 0 ≤ r ∧ r < m)) ∧ Src w' g a n c xs ∧ Off g w w' := by
  by_cases hm : m ≤ 1
  · go_enter Tryz.func65, Tryz.ntmps65
    go_wp2_with fail
    go_ret
    exact ⟨⟨0, rfl, fun _ => rfl, fun h => by omega⟩, hS, Off.refl _ _⟩
  · have hS' := hS
    obtain ⟨⟨k, sd, hB, hk, s0, s1⟩, hI, hne, hn, hx⟩ := hS'
    have c0 := hB.c0
    have c1 := hB.c1
    have c2 := hB.c2
    have f1 := hB.frozen 1
    have f2 := hB.frozen 2
    have hm' : 1 < m := by omega
    clear hm
    have m0 : 0 ≤ (sd * 48271 + 67) % 2147483647 := by omega
    have m1 : (sd * 48271 + 67) % 2147483647 < 2147483647 := by omega
    by_cases hkn : k < n
    · obtain ⟨b, o, rfl, hb, hc⟩ := hI (by omega)
      have hck := hc k hkn
      obtain ⟨x0, x1⟩ := hx k
      have hbg := hne (by omega) b o rfl
      obtain ⟨xk, hxk⟩ : ∃ x, xs.getD k 0 = x := ⟨_, rfl⟩
      rw [hxk] at hck x0 x1
      have HC := Lib.hid hc
      clear hc hx
      have hwk : (k : Int) < n := by omega
      have hX := Lib.hid (hS.2.2.2.2)
      by_cases h256 : m ≤ 256
      · by_cases hpar : (k : Int) % 2 = 1
        · have hp2 : ((k : Int) + 1) % 2 = 0 := by omega
          go_enter Tryz.func65, Tryz.ntmps65
          go_wp2_with fail
          go_quiet (fail)
          go_wp2_with fail
          go_quiet (fail)
          go_wp2_with fail
          go_quiet (fail)
          go_wp2_with fail
          go_ret
          exact ⟨ret_mod hm', src_after hI hne hn hX.out (((((Off.refl _ _).set _ _).drewN _).set _ _).drewN _) (((hB.s2 _).drewN _).s1 _ |>.drewN _) (by omega) (by omega) m0 m1, ((((Off.refl _ _).set _ _).drewN _).set _ _).drewN _⟩
        · have hp2 : ((k : Int) + 1) % 2 = 1 := by omega
          go_enter Tryz.func65, Tryz.ntmps65
          go_wp2_with fail
          go_quiet (fail)
          go_wp2_with fail
          go_quiet (fail)
          go_wp2_with fail
          go_ret
          exact ⟨ret_mod hm', src_after hI hne hn hX.out ((((Off.refl _ _).set _ _).drewN _).set _ _) (((hB.s2 _).drewN _).s1 _) (by omega) (by omega) m0 m1, (((Off.refl _ _).set _ _).drewN _).set _ _⟩
      · have hd256 : decide (m ≤ 256) = false := by simp; omega
        have h256' : 256 < m := by omega
        clear h256
        focus
          go_enter Tryz.func65, Tryz.ntmps65
          go_wp2_with fail
          go_quiet (fail)
          go_wp2_with fail
          go_quiet (fail)
          go_wp2_with fail
          go_ret
          exact ⟨ret_mod hm', src_after hI hne hn hX.out ((((Off.refl _ _).set _ _).drewN _).set _ _) (((hB.s2 _).drewN _).s1 _) (by omega) (by omega) m0 m1, (((Off.refl _ _).set _ _).drewN _).set _ _⟩
    · obtain rfl : k = n := by omega
      go_enter Tryz.func65, Tryz.ntmps65
      go_wp2_with fail
      go_quiet (fail)
      go_wp2_with fail
      go_ret
      exact ⟨ret_mod hm', src_after hI hne hn hx (((Off.refl _ _).set _ _).drewN _) ((hB.s2 _).drewN _) (by omega) (by omega) m0 m1, ((Off.refl _ _).set _ _).drewN _⟩
set_option maxRecDepth 100000 in
set_option maxHeartbeats 600000 in
theorem d_from (a : Option Addr) (n c : Nat) (xs : List Int) (w : World) (hI : InB w a n xs) (hn : n ≤ 4096) (hx : ∀ i, 0 ≤ xs.getD i 0 ∧ xs.getD i 0 ≤ 255) : Calls Tryz.prog 62 #[.slice a n c] w fun e w' =>
    e = .returned (.pointer (some ⟨w.heap.size, 0, none⟩)) ∧ Src w' w.heap.size a n c xs ∧ Below w.heap.size w w' := by
  have HI := Lib.hid hI
  have HX := Lib.hid hx
  go_enter Tryz.func62, Tryz.ntmps62
  go_wp2_with fail
  go_loopw [4] (fun i wr => ∃ (k : Nat) (sd : Int), k ≤ n ∧ i = .int .i64 k ∧ Blk wr w.heap.size 127 #[.slice a n c, .int .i64 0, .int .i64 sd] ∧ 0 ≤ sd ∧ sd < 2147483647 ∧ Below w.heap.size w wr) (fun i _ => n - (intOf i).toNat)
  case atStart => exact ⟨0, 34001, by omega, rfl, Blk.new _ _ _, by omega, by omega, below_alloc _ _⟩
  case round =>
    obtain ⟨k, sd, hk, rfl, hB, s0, s1, L⟩ := hrel
    have hfin : Src wr w.heap.size a n c xs := ⟨⟨0, sd, hB, by omega, s0, s1⟩, fun h0 => by
        obtain ⟨b, o, e, hlt, hc⟩ := HI.out h0
        exact ⟨b, o, e, Nat.lt_of_lt_of_le hlt L.size, fun i hi => (L.cell (p := ⟨b, o + i, none⟩) hlt).trans (hc i hi)⟩, fun h0 b o e => by
        obtain ⟨b', o', e', hlt, _⟩ := HI.out h0
        rw [e] at e'
        injection e' with e'
        injection e' with e1
        omega, hn, HX.out⟩
    have HF := Lib.hid hfin; clear hfin
    by_cases hlt : k < n
    · by_cases h64 : k < 64
      · obtain ⟨b, o, rfl, hb, hc⟩ := HI.out (by omega)
        have d0 := (L.cell (p := ⟨b, o + k, none⟩) hb).trans (hc k hlt)
        obtain ⟨x0, x1⟩ := HX.out k
        obtain ⟨xk, hxk⟩ : ∃ x, xs.getD k 0 = x := ⟨_, rfl⟩
        rw [hxk] at d0 x0 x1
        have hbw : b < wr.heap.size := Nat.lt_of_lt_of_le hb L.size
        have c2 := hB.c2
        have f2 := hB.frozen 2
        have hlt0 := hB.lt
        have m0 : 0 ≤ (sd * 67 + xk) % 2147483647 := by omega
        have m1 : (sd * 67 + xk) % 2147483647 < 2147483647 := by omega
        have HB := Lib.hid hB
        clear hc hxk hI hx hB
        go_wp2_with fail
        go_region
        all_goals (try go_wp2_with fail)
        go_roundw
        case rel => exact ⟨k + 1, (sd * 67 + xk) % 2147483647, by omega, by go_num, (HB.out.s2 _).drew, m0, m1, (below_set' L (Nat.le_refl _) _ _).drew⟩
        case measure => simp [intOf]; omega
      · have h64' : 64 ≤ k := by omega
        clear h64
        go_wp2_with fail
        go_ret
        exact ⟨rfl, HF.out, L⟩
    · obtain rfl : k = n := by omega
      go_wp2_with fail
      go_ret
      exact ⟨rfl, HF.out, L⟩
set_option maxRecDepth 100000 in
theorem d_pick (g n c gl m : Nat) (a : Option Addr) (xs vs : List Int) (w : World) (hS : Src w g a n c xs) (hg : gl ≠ g) (hl : gl < w.heap.size) (hm : 1 ≤ m) (hm2 : m ≤ 100) (hc : ∀ j, j < m → w.cell? ⟨gl, j, none⟩ = some (.int .i64 (vs.getD j 0))) :
    Calls Tryz.prog 85 #[.pointer (some ⟨g, 0, none⟩), .slice (some ⟨gl, 0, none⟩) m m] w fun e w' => (∃ j, j < m ∧ e = .returned (.int .i64 (vs.getD j 0))) ∧ Src w' g a n c xs ∧ Off g w w' := by
  have con := d_next g n c a xs (m : Int) w hS
  have CON := Lib.hid con
  have HC := Lib.hid hc
  clear con hc hS
  go_enter Tryz.func85, Tryz.ntmps85
  go_wp2_with fail
  refine CON.out.mono ?_
  rintro e w1 ⟨⟨r, rfl, hr1, hr2⟩, hS1, hO⟩
  have hr : 0 ≤ r ∧ r < m := by
    by_cases h1 : (m : Int) ≤ 1
    · have := hr1 h1; omega
    · exact hr2 (by omega)
  obtain ⟨j, rfl⟩ : ∃ j : Nat, r = j := ⟨r.toNat, by omega⟩
  have hj : j < m := by omega
  have d0 := (hO.cell hl hg j).trans (HC.out j hj)
  have hl1 : gl < w1.heap.size := Nat.lt_of_lt_of_le hl hO.size
  obtain ⟨y, hy⟩ : ∃ y, vs.getD j 0 = y := ⟨_, rfl⟩
  rw [hy] at d0
  clear hr hr1 hr2
  go_wp2_with fail
  go_ret
  exact ⟨⟨j, hj, by rw [hy]; rfl⟩, hS1, hO⟩
end Go.Proofs.YtmpgokijlikddaaGreatDoor
