/- The dice of the laws: they hand out numbers of a range; nothing else is written. Conditions: how the code and the dice lie. -/
import Derived.Test.YtnoeakhhokbikaaSrc
namespace Go.Proofs.Ytnoeakhhokbikaa
open Go.RowKit
/-- the dice lie in block g, over the code of n bytes at a -/
def Dice (w : World) (g : Nat) (a : Option Addr) (n c : Nat) (xs : List Int) : Prop :=
  (∃ (k : Nat) (h : Int), Blk w g 61 #[.slice a n c, .int .i64 k, .int .u64 h] ∧ k ≤ n) ∧ InB w a n xs ∧ (0 < n → ∀ b o, a = some ⟨b, o, none⟩ → b ≠ g) ∧ n ≤ 4096 ∧ ∀ i, 0 ≤ xs.getD i 0 ∧ xs.getD i 0 ≤ 255
theorem Dice.lt {w : World} {g n c : Nat} {a : Option Addr} {xs : List Int} (h : Dice w g a n c xs) : g < w.heap.size := by
  obtain ⟨⟨k, sd, hb, _⟩, _⟩ := h
  exact hb.lt
theorem Dice.below {w w' : World} {g n c : Nat} {a : Option Addr} {xs : List Int} (h : Dice w g a n c xs) (hb : Below w.heap.size w w') : Dice w' g a n c xs := by
  obtain ⟨⟨k, sd, hB, h1⟩, h2, h3⟩ := h
  exact ⟨⟨k, sd, hB.below hb hB.lt, h1⟩, h2.below hb, h3⟩
theorem dice_after {w w' : World} {g n c : Nat} {a : Option Addr} {xs : List Int} {k' sd' : Int} (hI : InB w a n xs) (hne : 0 < n → ∀ b o, a = some ⟨b, o, none⟩ → b ≠ g) (hn : n ≤ 4096) (hx : ∀ i, 0 ≤ xs.getD i 0 ∧ xs.getD i 0 ≤ 255)
    (hoff : Off g w w') (hb : Blk w' g 61 #[.slice a n c, .int .i64 k', .int .u64 sd']) (h0 : 0 ≤ k') (h1 : k' ≤ n) : Dice w' g a n c xs :=
  ⟨⟨k'.toNat, sd', hb.to (by rw [Int.toNat_of_nonneg h0]), by omega⟩, hI.off hoff hne, hne, hn, hx⟩
theorem dice_bd (z : Int) : 0 ≤ bits .and .u64 (IntKind.u64.wrap z / 8589934592) 16777215 ∧ bits .and .u64 (IntKind.u64.wrap z / 8589934592) 16777215 ≤ 16777215 := by
  have h : 0 ≤ IntKind.u64.wrap z ∧ IntKind.u64.wrap z < 18446744073709551616 := by simp [IntKind.wrap, IntKind.bits, IntKind.signed]; omega
  rw [u64_and _ _ (by omega) (by omega) (by decide) (by decide)]
  have h2 := @Nat.and_le_right (IntKind.u64.wrap z / 8589934592).toNat (16777215 : Int).toNat
  have e : (16777215 : Int).toNat = 16777215 := rfl
  omega
theorem ret_emod {x m : Int} (hm : 1 ≤ m) : ∃ r, Ending.returned (.int .i64 (x % m)) = .returned (.int .i64 r) ∧ 0 ≤ r ∧ r < m :=
  ⟨_, rfl, Int.emod_nonneg _ (by omega), Int.emod_lt_of_pos _ (by omega)⟩
set_option maxRecDepth 100000 in
set_option maxHeartbeats 600000 in
theorem l_roll (sd0 : Int) (a : Option Addr) (n c : Nat) (xs : List Int) (w : World) (hI : InB w a n xs) (hn : n ≤ 4096) (hx : ∀ i, 0 ≤ xs.getD i 0 ∧ xs.getD i 0 ≤ 255) : Calls Try.prog 19 #[.slice a n c, .int .u64 sd0] w fun e w' =>
    e = .returned (.pointer (some ⟨w.heap.size, 0, none⟩)) ∧ Dice w' w.heap.size a n c xs ∧ Below w.heap.size w w' := by
  have HI := Lib.hid hI
  have HX := Lib.hid hx
  go_enter Try.func19, Try.ntmps19
  go_wp2_with fail
  go_loopw [6] (fun i wr => ∃ (k : Nat) (sd : Int), k ≤ n ∧ i = .int .i64 k ∧ Blk wr w.heap.size 61 #[.slice a n c, .int .i64 0, .int .u64 sd] ∧ Below w.heap.size w wr) (fun i _ => n - (intOf i).toNat)
  case atStart => exact ⟨0, _, by omega, rfl, Blk.new _ _ _, below_alloc _ _⟩
  case round =>
    obtain ⟨k, sd, hk, rfl, hB, L⟩ := hrel
    have hfin : Dice wr w.heap.size a n c xs := ⟨⟨0, sd, hB, by omega⟩, fun h0 => by
        obtain ⟨b, o, e, hlt, hc⟩ := HI.out h0
        exact ⟨b, o, e, Nat.lt_of_lt_of_le hlt L.size, fun i hi => (L.cell (p := ⟨b, o + i, none⟩) hlt).trans (hc i hi)⟩, fun h0 b o e => by
        obtain ⟨b', o', e', hlt, _⟩ := HI.out h0
        rw [e] at e'
        injection e' with e'
        injection e' with e1
        omega, hn, HX.out⟩
    have HF := Lib.hid hfin; clear hfin
    by_cases hlt : k < n
    · obtain ⟨b, o, rfl, hb, hc⟩ := HI.out (by omega)
      have d0 := (L.cell (p := ⟨b, o + k, none⟩) hb).trans (hc k hlt)
      obtain ⟨x0, x1⟩ := HX.out k
      obtain ⟨xk, hxk⟩ : ∃ x, xs.getD k 0 = x := ⟨_, rfl⟩
      rw [hxk] at d0 x0 x1
      have hbw : b < wr.heap.size := Nat.lt_of_lt_of_le hb L.size
      have c2 := hB.c2
      have f2 := hB.frozen 2
      have hlt0 := hB.lt
      have HB := Lib.hid hB
      clear hc hxk hI hx hB
      go_wp2_with fail
      go_region
      all_goals (try go_wp2_with fail)
      go_roundw
      case rel => exact ⟨k + 1, _, by omega, by go_num, (HB.out.s2 _).drew, (below_set' L (Nat.le_refl _) _ _).drew⟩
      case measure => simp [intOf]; omega
    · obtain rfl : k = n := by omega
      go_wp2_with fail
      go_ret
      exact ⟨rfl, HF.out, L⟩
set_option maxRecDepth 100000 in
set_option maxHeartbeats 1000000 in
theorem l_below (g n c : Nat) (a : Option Addr) (xs : List Int) (m : Int) (w : World) (hm : 1 ≤ m) (hS : Dice w g a n c xs) : Calls Try.prog 20 #[.pointer (some ⟨g, 0, none⟩), .int .i64 m] w fun e w' =>
    (∃ r, e = .returned (.int .i64 r) ∧ 0 ≤ r ∧ r < m) ∧ Dice w' g a n c xs ∧ Off g w w' := by
  obtain ⟨⟨k, h, hB, hk⟩, hI, hne, hn, hx⟩ := id hS
  have c0 := hB.c0
  have c1 := hB.c1
  have c2 := hB.c2
  have f1 := hB.frozen 1
  have f2 := hB.frozen 2
  have hd := dice_bd (IntKind.u64.wrap (h * 6364136223846793005) + 1442695040888963407)
  obtain ⟨hd0, hd1⟩ := hd
  by_cases hkn : k < n
  · obtain ⟨b, o, rfl, hb, hc⟩ := hI (by omega)
    have hck := hc k hkn
    obtain ⟨x0, x1⟩ := hx k
    have hbg := hne (by omega) b o rfl
    obtain ⟨xk, hxk⟩ : ∃ x, xs.getD k 0 = x := ⟨_, rfl⟩
    rw [hxk] at hck x0 x1
    have HC := Lib.hid hc
    clear hc hx
    have hwk : (k : Int) < n := by omega
    have hX := Lib.hid (hS.2.2.2.2)
    go_enter Try.func20, Try.ntmps20
    go_wp2_with fail
    go_quiet (fail)
    go_wp2_with fail
    go_quiet (fail)
    go_wp2_with fail
    go_ret
    exact ⟨ret_emod hm, dice_after hI hne hn hX.out ((((Off.refl _ _).set _ _).drewN _).set _ _) (((hB.s2 _).drewN _).s1 _) (by omega) (by omega), (((Off.refl _ _).set _ _).drewN _).set _ _⟩
  · obtain rfl : k = n := by omega
    go_enter Try.func20, Try.ntmps20
    go_wp2_with fail
    go_quiet (fail)
    go_wp2_with fail
    go_ret
    exact ⟨ret_emod hm, dice_after hI hne hn hx (((Off.refl _ _).set _ _).drewN _) ((hB.s2 _).drewN _) (by omega) (by omega), ((Off.refl _ _).set _ _).drewN _⟩
end Go.Proofs.Ytnoeakhhokbikaa
