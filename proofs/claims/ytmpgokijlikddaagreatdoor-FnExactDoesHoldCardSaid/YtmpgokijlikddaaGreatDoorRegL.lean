/- Lists of reigns as the laws hand them on: their size; compared. Conditions: lengths that a machine can hold; how the lists lie. -/
import Derived.Test.YtmpgokijlikddaaGreatDoorRegs
namespace Go.Proofs.YtmpgokijlikddaaGreatDoor
open Go.RowKit
set_option maxRecDepth 100000 in
theorem l_szReignS' (a : Option Addr) (c : Nat) (rs : List RG) (w : World) (hin : InR w a rs.length rs) (hn : rs.length ≤ 9223372036854775807) (hok : ∀ i, rgOk (rs.getD i rg0)) :
    Calls Tryz.prog 26 #[.slice a rs.length c, .int .i64 1048576] w fun e w' => (∃ r, e = .returned (.int .i64 r) ∧ (r = -1 ∨ (0 ≤ r ∧ r ≤ 1048576 ∧ (rs.length : Int) ≤ 1048576))) ∧ Below w.heap.size w w' := by
  have HI := Lib.hid hin; clear hin
  have HO := Lib.hid hok; clear hok
  obtain ⟨n, hnn⟩ : ∃ n, rs.length = n := ⟨_, rfl⟩
  rw [hnn] at HI hn ⊢
  clear hnn
  by_cases hbig : 1048576 < n
  · have hw : IntKind.i64.wrap (1048576 - (n : Int)) = 1048576 - n := IntWalk.i64_in _ (by omega)
    have hd : 1048576 - (n : Int) < 0 := by omega
    go_enter Tryz.func26, Tryz.ntmps26
    go_wp2_with fail
    go_ret
    exact ⟨⟨-1, rfl, .inl rfl⟩, Below.refl _ _⟩
  · have hw : IntKind.i64.wrap (1048576 - (n : Int)) = 1048576 - n := IntWalk.i64_in _ (by omega)
    have hd : (0 : Int) ≤ 1048576 - (n : Int) := by omega
    have hn2 : (n : Int) ≤ 1048576 := by omega
    clear hbig
    go_enter Tryz.func26, Tryz.ntmps26
    go_wp2_with fail
    go_loopw [1, 5] (fun l i wr => ∃ k : Nat, k ≤ n ∧ i = .int .i64 k ∧ ∃ r : Int, l = .int .i64 r ∧ 0 ≤ r ∧ r ≤ 1048576 ∧ Below w.heap.size w wr) (fun _ i _ => n - (intOf i).toNat)
    case atStart => exact ⟨0, by omega, rfl, 1048576 - (n : Int), rfl, by omega, by omega, Below.refl _ _⟩
    case round =>
      obtain ⟨k, hk, rfl, r, rfl, hr0, hr1, hB⟩ := hrel
      by_cases hlt : k < n
      · obtain ⟨b, o, rfl, hb, hc⟩ := HI.out (by omega)
        obtain ⟨h0, h1, h2⟩ := hc k hlt
        have c0 := (hB.cell (p := ⟨b, o + k * 3, none⟩) hb).trans h0
        have c1 := (hB.cell (p := ⟨b, o + k * 3 + 1, none⟩) hb).trans h1
        have c2 := (hB.cell (p := ⟨b, o + k * 3 + 2, none⟩) hb).trans h2
        have o0 := (HO.out k).1
        obtain ⟨p, hp⟩ : ∃ p, rs.getD k rg0 = p := ⟨_, rfl⟩
        rw [hp] at c0 c1 c2 o0
        obtain ⟨x, f, t⟩ := p
        have con := fun W => l_szReign ⟨x.toArray⟩ f t r W o0 hr0 hr1
        have hsz : (⟨x.toArray⟩ : ByteArray).size = x.length := rfl
        clear hc h0 h1 h2 hp
        by_cases hneg : r < (x.length : Int)
        · rw [hsz] at con
          simp only [if_pos hneg] at con
          have CON := Lib.hid con; clear con
          go_wp2_with fail
          refine (CON.out _).mono ?_
          rintro e w2 ⟨rfl, hb2⟩
          go_wp2_with fail
          go_ret
          exact ⟨⟨-1, rfl, .inl rfl⟩, hB.trans (hb2.mono hB.size)⟩
        · rw [hsz] at con
          simp only [if_neg hneg] at con
          have CON := Lib.hid con; clear con
          have hneg' : (0 : Int) ≤ r - x.length := by omega
          clear hneg
          go_wp2_with fail
          refine (CON.out _).mono ?_
          rintro e w2 ⟨rfl, hb2⟩
          go_wp2_with fail
          go_roundw
          case rel => exact ⟨k + 1, by omega, by go_num, r - x.length, rfl, by omega, by omega, hB.trans (hb2.mono hB.size)⟩
          case measure => simp [intOf]; omega
      · obtain rfl : k = n := by omega
        go_wp2_with fail
        go_ret
        exact ⟨⟨r, rfl, .inr ⟨hr0, hr1, hn2⟩⟩, hB⟩
theorem l_szReignS (a : Option Addr) (c : Nat) (rs : List RG) (w : World) (hin : InR w a rs.length rs) (hn : rs.length ≤ 9223372036854775807) (hok : ∀ i, rgOk (rs.getD i rg0)) :
    Calls Tryz.prog 26 #[.slice a rs.length c, .int .i64 1048576] w fun e w' => (∃ r, e = .returned (.int .i64 r) ∧ (r = -1 ∨ (0 ≤ r ∧ (rs.length : Int) ≤ 1048576))) ∧ Below w.heap.size w w' :=
  (l_szReignS' a c rs w hin hn hok).mono fun _ _ h => by
    obtain ⟨⟨r, h1, h2⟩, h3⟩ := h
    exact ⟨⟨r, h1, h2.imp id fun h => ⟨h.1, h.2.2⟩⟩, h3⟩
theorem l_eqReign (s : ByteArray) (f t : Int) (w : World) : Calls Tryz.prog 99 #[.agg #[.string s, .int .i64 f, .int .i64 t], .agg #[.string s, .int .i64 f, .int .i64 t]] w fun e w' => e = .returned (.bool true) ∧ Below w.heap.size w w' := by
  go_enter Tryz.func99, Tryz.ntmps99
  go_wp2_with fail
  go_ret
  exact ⟨rfl, below_more (below_alloc _ _) (by simp) _⟩
set_option maxRecDepth 100000 in
theorem l_eqReignS (g1 g2 c1 c2 : Nat) (rs : List RG) (w : World) (h1 : RowR w g1 rs.length rs) (h2 : RowR w g2 rs.length rs) (hn : rs.length ≤ 1048576) :
    Calls Tryz.prog 32 #[.slice (some ⟨g1, 0, none⟩) rs.length c1, .slice (some ⟨g2, 0, none⟩) rs.length c2] w fun e w' => e = .returned (.bool true) ∧ Below w.heap.size w w' := by
  have H1 := Lib.hid h1; clear h1
  have H2 := Lib.hid h2; clear h2
  obtain ⟨n, hnn⟩ : ∃ n, rs.length = n := ⟨_, rfl⟩
  rw [hnn] at H1 H2 hn ⊢
  clear hnn
  go_enter Tryz.func32, Tryz.ntmps32
  go_wp2_with fail
  go_loopw [5] (fun i wr => ∃ k : Nat, k ≤ n ∧ i = .int .i64 k ∧ Below w.heap.size w wr) (fun i _ => n - (intOf i).toNat)
  case atStart => exact ⟨0, by omega, rfl, Below.refl _ _⟩
  case round =>
    obtain ⟨k, hk, rfl, hB⟩ := hrel
    by_cases hlt : k < n
    · obtain ⟨hg1, hc1⟩ := H1.out (by omega)
      obtain ⟨hg2, hc2⟩ := H2.out (by omega)
      obtain ⟨a0, a1, a2⟩ := hc1 k hlt
      obtain ⟨b0, b1, b2⟩ := hc2 k hlt
      have c0 := (hB.cell (p := ⟨g1, _, none⟩) hg1).trans a0
      have c1 := (hB.cell (p := ⟨g1, _, none⟩) hg1).trans a1
      have c2 := (hB.cell (p := ⟨g1, _, none⟩) hg1).trans a2
      have d0 := (hB.cell (p := ⟨g2, _, none⟩) hg2).trans b0
      have d1 := (hB.cell (p := ⟨g2, _, none⟩) hg2).trans b1
      have d2 := (hB.cell (p := ⟨g2, _, none⟩) hg2).trans b2
      obtain ⟨p, hp⟩ : ∃ p, rs.getD k rg0 = p := ⟨_, rfl⟩
      rw [hp] at c0 c1 c2 d0 d1 d2
      obtain ⟨x, f, t⟩ := p
      clear hc1 hc2 a0 a1 a2 b0 b1 b2 hp
      have hw1 : g1 < wr.heap.size := Nat.lt_of_lt_of_le hg1 hB.size
      have hw2 : g2 < wr.heap.size := Nat.lt_of_lt_of_le hg2 hB.size
      have K0 := Lib.hid c0
      have K1 := Lib.hid c1
      have K2 := Lib.hid c2
      have K3 := Lib.hid d0
      have K4 := Lib.hid d1
      have K5 := Lib.hid d2
      go_wp2_with fail
      go_region_held3 (fun W => W.cell? ⟨g1, k * 3, none⟩ = some (.string ⟨x.toArray⟩) ∧ W.cell? ⟨g1, k * 3 + 1, none⟩ = some (.int .i64 f) ∧ W.cell? ⟨g1, k * 3 + 2, none⟩ = some (.int .i64 t) ∧ W.cell? ⟨g2, k * 3, none⟩ = some (.string ⟨x.toArray⟩) ∧ W.cell? ⟨g2, k * 3 + 1, none⟩ = some (.int .i64 f) ∧ W.cell? ⟨g2, k * 3 + 2, none⟩ = some (.int .i64 t))
        (first | go_keep | exact ⟨K0.out, K1.out, K2.out, K3.out, K4.out, K5.out⟩ | exact ⟨e0, e1, e2, e3, e4, e5⟩)
        (first | (go_at_call 99; refine (l_eqReign _ _ _ _).mono ?_; rintro e w3 ⟨rfl, hb3⟩; have hb3' := below_undrew hb3; have hL := hB.trans (hb3'.mono hB.size); have e0 := (hb3'.cell (p := ⟨g1, k * 3, none⟩) hw1).trans K0.out; have e1 := (hb3'.cell (p := ⟨g1, k * 3 + 1, none⟩) hw1).trans K1.out; have e2 := (hb3'.cell (p := ⟨g1, k * 3 + 2, none⟩) hw1).trans K2.out; have e3 := (hb3'.cell (p := ⟨g2, k * 3, none⟩) hw2).trans K3.out; have e4 := (hb3'.cell (p := ⟨g2, k * 3 + 1, none⟩) hw2).trans K4.out; have e5 := (hb3'.cell (p := ⟨g2, k * 3 + 2, none⟩) hw2).trans K5.out))
      go_wp2_with fail
      go_roundw
      case rel => exact ⟨k + 1, by omega, by go_num, hL⟩
      case measure => simp [intOf]; omega
    · obtain rfl : k = n := by omega
      go_wp2_with fail
      go_ret
      exact ⟨rfl, hB⟩
end Go.Proofs.YtmpgokijlikddaaGreatDoor
