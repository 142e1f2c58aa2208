/- Lists of texts as the laws hand them on: their size, their copy, compared. Conditions: lengths that a machine can hold; how the list lies. -/
import Derived.Test.YtelppggliieniaaGreatDoorMem
import Derived.Test.YtelppggliieniaaGreatDoorStrs
import Derived.Laws.MakeOwn
namespace Go.Proofs.YtelppggliieniaaGreatDoor
open Go.RowKit
theorem OwnS.of_blk {w : World} {base g : Nat} {cs : Array Value} {xs : List (List UInt8)} (hB : Blk w g 9 cs) (hb : base ≤ g) (hs : cs.size = xs.length) (hm : xs.length ≤ 1048577) (hc : ∀ i, i < xs.length → cs[i]? = some (sv (xs.getD i []))) :
    OwnS w base (.slice (some ⟨g, 0, none⟩) xs.length xs.length) xs := by
  refine ⟨by simp, .inr ⟨g, xs.length, cs, rfl, hb, hB, Nat.le_refl _, by unfold maxLen; omega, by omega, ?_⟩⟩
  rw [Nat.mul_one]
  apply List.ext_getElem?
  intro i
  by_cases hi : i < xs.length
  · rw [List.getElem?_take, if_pos hi, Array.getElem?_toList, hc i hi]
    simp [hi]
  · rw [List.getElem?_eq_none (by simp; omega), List.getElem?_eq_none (by simp; omega)]
/-- a block that holds the first k of the texts -/
def PutS (w : World) (g n k : Nat) (xs : List (List UInt8)) : Prop := ∃ cs, Blk w g 9 cs ∧ cs.size = n ∧ ∀ i, i < k → cs[i]? = some (sv (xs.getD i []))
theorem PutS.step {w : World} {g n k : Nat} {xs : List (List UInt8)} (h : PutS w g n k xs) (hk : k < n) : PutS (w.setCell ⟨g, k, none⟩ (.string ⟨(xs.getD k []).toArray⟩)) g n (k + 1) xs := by
  obtain ⟨cs, hB, hs, hc⟩ := h
  refine ⟨_, hB.set_ _ _, by simp [hs], fun i hi => ?_⟩
  simp only [Array.getElem?_setIfInBounds, hs]
  by_cases he : i = k
  · subst he
    rw [if_pos rfl, if_pos hk]; rfl
  · rw [if_neg (by omega)]; exact hc i (by omega)
set_option maxRecDepth 100000 in
theorem l_toStringS (a : Option Addr) (c : Nat) (xs : List (List UInt8)) (w : World) (hin : InS w a xs.length xs) (hn : xs.length ≤ 1048576) : Calls Tryz.prog 34 #[.slice a xs.length c] w fun e w' =>
    e = .returned (.slice (some ⟨w.heap.size, 0, none⟩) xs.length xs.length) ∧ OwnS w' w.heap.size (.slice (some ⟨w.heap.size, 0, none⟩) xs.length xs.length) xs ∧ Below w.heap.size w w' := by
  have HI := Lib.hid hin; clear hin
  have HF := Lib.hid (fun (W : World) (cs : Array Value) (hB : Blk W w.heap.size 9 cs) (hs : cs.size = xs.length) (hc : ∀ i, i < xs.length → cs[i]? = some (sv (xs.getD i []))) => OwnS.of_blk (base := w.heap.size) hB (Nat.le_refl _) hs (by omega) hc)
  obtain ⟨n, hnn⟩ : ∃ n, xs.length = n := ⟨_, rfl⟩
  rw [hnn] at HI HF hn ⊢
  clear hnn
  obtain ⟨i0, hi, hz0, hz1, hz2⟩ := info_parts infoS
  have hmk := fun W => run_make (P := Tryz.prog) W 50 9 i0 (.string ByteArray.empty) Tryz.underlying50 hi hz0 .i64 .i64 (n : Int) (n : Int) (by omega) (Int.le_refl _) (by rw [hz2]; omega) (by omega)
  have hsz := size_madeCells (Value.string ByteArray.empty).cells (n * i0.size)
  rw [Int.toNat_natCast] at hmk
  obtain ⟨cs, hcs⟩ : ∃ cs, madeCells (Value.string ByteArray.empty).cells (n * i0.size) = cs := ⟨_, rfl⟩
  rw [hcs, hz1, Nat.mul_one] at hsz
  simp only [hcs] at hmk
  clear hcs hi hz0 hz1 hz2
  go_enter Tryz.func34, Tryz.ntmps34
  go_wp2_with fail
  clear hmk
  go_loopw [4] (fun i wr => ∃ k : Nat, k ≤ n ∧ i = .int .i64 k ∧ PutS wr w.heap.size n k xs ∧ Below w.heap.size w wr) (fun i _ => n - (intOf i).toNat)
  case atStart => exact ⟨0, by omega, rfl, ⟨cs, Blk.new _ _ _, hsz, fun i h => absurd h (Nat.not_lt_zero i)⟩, below_alloc _ _⟩
  case round =>
    obtain ⟨k, hk, rfl, hP, hB⟩ := hrel
    by_cases hlt : k < n
    · obtain ⟨b, o, rfl, hb, hc⟩ := HI.out (by omega)
      have c0 := hc k hlt
      have c1 := (hB.cell (p := ⟨b, o + k, none⟩) hb).trans c0
      have hbw : b < wr.heap.size := Nat.lt_of_lt_of_le hb hB.size
      have HS := Lib.hid (hP.step hlt)
      obtain ⟨cs', g1, g2, _⟩ := hP
      have f0 := g1.frozen k
      have g3 : wr.cell? ⟨w.heap.size, k, none⟩ = cs'[k]? := g1.cell k
      have g4 : ∃ v, cs'[k]? = some v := ⟨_, Array.getElem?_eq_getElem (by omega)⟩
      obtain ⟨v, g4⟩ := g4
      rw [g4] at g3
      clear hc c0 g1 g2 g4
      go_wp2_with fail
      go_roundw
      case rel => exact ⟨k + 1, by omega, by go_num, HS.out, hB.setCell (p := ⟨w.heap.size, k, none⟩) (Nat.le_refl _) _⟩
      case measure => simp [intOf]; omega
    · obtain rfl : k = n := by omega
      go_wp2_with fail
      go_ret
      obtain ⟨cs', h1, h2, h3⟩ := hP
      exact ⟨rfl, HF.out _ cs' h1 h2 h3, hB⟩
def tl (xs : List (List UInt8)) (k : Nat) : Nat := ((xs.take k).map List.length).sum
theorem tl_succ (xs : List (List UInt8)) (k : Nat) (h : k < xs.length) : tl xs (k + 1) = tl xs k + (xs.getD k []).length := by
  unfold tl; rw [List.take_succ_eq_append_getElem h, List.map_append, List.sum_append]; simp [h]
theorem tl_le (xs : List (List UInt8)) : ∀ k i, i < k → k ≤ xs.length → (xs.getD i []).length ≤ tl xs k
  | 0, i, h, _ => by omega
  | k + 1, i, h, hk => by
    rw [tl_succ xs k (by omega)]
    by_cases he : i = k
    · subst he; omega
    · have := tl_le xs k i (by omega) (by omega); omega
set_option maxRecDepth 100000 in
theorem l_szStringS (a : Option Addr) (c : Nat) (xs : List (List UInt8)) (w : World) (hin : InS w a xs.length xs) (hn : xs.length ≤ 9223372036854775807) (hx : ∀ i, (xs.getD i []).length ≤ 9223372036854775807) (left : Int) (h0 : 0 ≤ left) (h1 : left ≤ 1048576) :
    Calls Tryz.prog 32 #[.slice a xs.length c, .int .i64 left] w fun e w' => (∃ r, e = .returned (.int .i64 r) ∧ (r = -1 ∨ (r = left - xs.length - tl xs xs.length ∧ 0 ≤ r))) ∧ w = w' := by
  have HI := Lib.hid hin; clear hin
  have HS := Lib.hid (tl_succ xs)
  have HX := Lib.hid hx; clear hx
  obtain ⟨n, hnn⟩ : ∃ n, xs.length = n := ⟨_, rfl⟩
  rw [hnn] at HI HS hn ⊢
  clear hnn
  by_cases hbig : left < n
  · have hw : IntKind.i64.wrap (left - n) = left - n := IntWalk.i64_in _ (by omega)
    have hd : left - (n : Int) < 0 := by omega
    go_enter Tryz.func32, Tryz.ntmps32
    go_wp2_with fail
    go_ret
    exact ⟨⟨-1, rfl, .inl rfl⟩, rfl⟩
  · have hw : IntKind.i64.wrap (left - n) = left - n := IntWalk.i64_in _ (by omega)
    have hd : (0 : Int) ≤ left - (n : Int) := by omega
    clear hbig
    go_enter Tryz.func32, Tryz.ntmps32
    go_wp2_with fail
    go_loop [1, 5] (fun l i => ∃ k : Nat, k ≤ n ∧ i = .int .i64 k ∧ ∃ r : Int, l = .int .i64 r ∧ r = left - n - tl xs k ∧ 0 ≤ r) (fun _ i => n - (intOf i).toNat)
    case atStart => exact ⟨0, by omega, rfl, left - n, rfl, by simp [tl], by omega⟩
    case round =>
      obtain ⟨k, hk, rfl, r, rfl, hr, hr0⟩ := hrel
      by_cases hlt : k < n
      · obtain ⟨b, o, rfl, hb, hc⟩ := HI.out (by omega)
        have c0 := hc k hlt
        have hs := HS.out k hlt
        have hxk := HX.out k
        clear hc
        obtain ⟨y, hy⟩ : ∃ y, xs.getD k [] = y := ⟨_, rfl⟩
        rw [hy] at c0 hs hxk
        have hsz : (⟨y.toArray⟩ : ByteArray).size = y.length := rfl
        have hw2 : IntKind.i64.wrap (r - y.length) = r - y.length := IntWalk.i64_in _ (by omega)
        have HR := Lib.hid hr; clear hr
        have HS' := Lib.hid hs; clear hs
        by_cases hneg : r - (y.length : Int) < 0
        · go_wp2_with fail
          go_ret
          exact ⟨⟨-1, rfl, .inl rfl⟩, rfl⟩
        · have hneg' : (0 : Int) ≤ r - y.length := by omega
          clear hneg
          go_wp2_with fail
          go_round
          case rel => exact ⟨k + 1, by omega, by go_num, r - y.length, by go_num, by rw [HS'.out, HR.out]; omega, by omega⟩
          case measure => simp [intOf]; omega
      · obtain rfl : k = n := by omega
        go_wp2_with fail
        go_ret
        exact ⟨⟨r, by rw [hr]; rfl, .inr ⟨hr, hr0⟩⟩, rfl⟩
set_option maxRecDepth 100000 in
theorem l_eqStringS {b1 b2 : Nat} {v1 v2 : Value} {xs : List (List UInt8)} (w : World) (h1 : OwnS w b1 v1 xs) (h2 : OwnS w b2 v2 xs) : Calls Tryz.prog 36 #[v1, v2] w fun e w' => e = .returned (.bool true) ∧ ∃ q, w' = w.drewN q := by
  obtain ⟨hl, A1, c1, rfl, p1⟩ := h1.opened
  obtain ⟨_, A2, c2, rfl, p2⟩ := h2.opened
  have P1 := Lib.hid p1; clear p1 h1
  have P2 := Lib.hid p2; clear p2 h2
  obtain ⟨n, hnn⟩ : ∃ n, xs.length = n := ⟨_, rfl⟩
  rw [hnn] at P1 P2 hl ⊢
  clear hnn
  go_enter Tryz.func36, Tryz.ntmps36
  go_wp2_with fail
  go_loopw [5] (fun i wr => ∃ k : Nat, k ≤ n ∧ i = .int .i64 k ∧ ∃ q, wr = w.drewN q) (fun i _ => n - (intOf i).toNat)
  case atStart => exact ⟨0, by omega, rfl, 0, rfl⟩
  case round =>
    obtain ⟨k, hk, rfl, q, rfl⟩ := hrel
    by_cases hlt : k < n
    · obtain ⟨g1, rfl, _, hg1, hc1, _⟩ := P1.out (by omega)
      obtain ⟨g2, rfl, _, hg2, hc2, _⟩ := P2.out (by omega)
      have d1 := hc1 k hlt
      have d2 := hc2 k hlt
      clear hc1 hc2
      go_wp2_with fail
      go_quiet (fail)
      go_wp2_with fail
      go_roundw
      case rel => exact ⟨k + 1, by omega, by go_num, _, rfl⟩
      case measure => simp [intOf]; omega
    · obtain rfl : k = n := by omega
      go_wp2_with fail
      go_ret
      exact ⟨rfl, _, rfl⟩
end Go.Proofs.YtelppggliieniaaGreatDoor
