/- The distance of two words: the program's and the reference's functions return what the plain function says. Conditions: both texts have at most 40 bytes. -/
import Derived.Test.YtelppggliieniaaGreatDoorLev
import Derived.Test.YtelppggliieniaaGreatDoorSlices
import Derived.Test.YtelppggliieniaaGreatDoorIdx
import Derived.WalkLawsBesides
import Derived.Deep.RegionLaw
import Derived.IntWalk
namespace Go.Proofs.YtelppggliieniaaGreatDoor
open Go.RowKit
theorem getD_at (a : ByteArray) (i : Nat) (h : i < a.size) : a.data.toList.getD i 0 = a[i] := by
  have h' : i < a.data.toList.length := by simpa using h
  rw [List.getD_eq_getElem?_getD, List.getElem?_eq_getElem h']; rfl
theorem mn1 (x y z : Int) : (if z + 1 < if y + 1 < x then y + 1 else x then z + 1 else if y + 1 < x then y + 1 else x) = min (min x (y + 1)) (z + 1) := by
  split <;> split <;> omega
theorem mn2 (x y z : Int) : (if z + 1 < if y < x then y + 1 else x + 1 then z + 1 else if y < x then y + 1 else x + 1) = min (min (x + 1) (y + 1)) (z + 1) := by
  split <;> split <;> omega
/-- a row of n + 1 numbers of the call's own, at block g -/
def RowAt (w : World) (b g n c : Nat) (xs : List Int) : Prop := xs.length = n + 1 ∧ w.ownsRow b 2 1 (.slice (some ⟨g, 0, none⟩) (n + 1) c) (n + 1) (xs.map (Value.int .i64))
theorem OwnI.row {w : World} {b n : Nat} {v : Value} {xs : List Int} (h : OwnI w b v xs) (hn : xs.length = n + 1) :
    ∃ g c, v = .slice (some ⟨g, 0, none⟩) (n + 1) c ∧ b ≤ g ∧ RowAt w b g n c xs := by
  obtain ⟨_, A, c, rfl, p⟩ := h.opened
  obtain ⟨g, rfl, h1, h2, h3, h4⟩ := p (by omega)
  rw [hn]
  exact ⟨g, c, rfl, h1, hn, by unfold OwnI at h; rwa [hn] at h⟩
theorem RowAt.lt {w : World} {b g n c : Nat} {xs : List Int} (h : RowAt w b g n c xs) : b ≤ g ∧ g < w.heap.size := World.ownsRow.lt h.2 g rfl
theorem RowAt.cell {w : World} {b g n c : Nat} {xs : List Int} (h : RowAt w b g n c xs) (j : Nat) (hj : j ≤ n) : w.cell? ⟨g, j, none⟩ = some (.int .i64 (xs[j]!)) := by
  have hl := h.1
  have := World.ownsRow.cellAt h.2 j (by omega)
  rw [this, List.getElem?_map, List.getElem?_eq_getElem (by omega), getElem!_pos _ _ (by omega)]; rfl
theorem RowAt.frozen {w : World} {b g n c : Nat} {xs : List Int} (h : RowAt w b g n c xs) (j : Nat) : w.frozen? ⟨g, j, none⟩ = false := World.ownsRow.frozenAt h.2 j
theorem RowAt.set_ {w : World} {b g n c : Nat} {xs ys : List Int} (h : RowAt w b g n c xs) (j : Nat) (u : Int) (hy : xs.set j u = ys) : RowAt (w.setCell ⟨g, j, none⟩ (.int .i64 u)) b g n c ys := by
  subst hy
  have := (World.ownsRow.stored h.2 j (.int .i64 u)).1
  rw [← List.map_set] at this
  exact ⟨by rw [List.length_set]; exact h.1, this⟩
theorem RowAt.to {w : World} {b g n c : Nat} {xs ys : List Int} (h : RowAt w b g n c xs) (e : xs = ys) : RowAt w b g n c ys := e ▸ h
theorem RowAt.alloc {w : World} {b g n c : Nat} {xs : List Int} (h : RowAt w b g n c xs) (o : Obj) : RowAt (w.alloc o) b g n c xs := ⟨h.1, World.ownsRow.alloc h.2 o⟩
theorem RowAt.own {w : World} {b g n c : Nat} {xs : List Int} (h : RowAt w b g n c xs) : OwnI w b (.slice (some ⟨g, 0, none⟩) (n + 1) c) xs := by
  unfold OwnI; rw [h.1]; exact h.2
theorem OwnI.lit {cs : Array Value} (w : World) (xs : List Int) (hm : xs.length ≤ maxLen := by unfold maxLen; simp) (hc : cs = (xs.map (Value.int .i64)).toArray := by rfl) : OwnI (w.alloc (.cells cs 2)) w.heap.size (.slice (some ⟨w.heap.size, 0, none⟩) xs.length xs.length) xs := by
  subst hc
  have := World.ownsRow_lit (base := w.heap.size) (e := 2) (size := 1) w (xs.map (Value.int .i64)).toArray xs.length (Nat.le_refl _) hm (by simp)
  simpa [OwnI] using this
theorem RowAt.kept {w w' : World} {b g n c : Nat} {xs : List Int} {row : Option Nat} (h : RowAt w b g n c xs) (hg : w.grownBy w' row) (hne : (Value.slice (some ⟨g, 0, none⟩) (n + 1) c).ownBlock = none ∨ (Value.slice (some ⟨g, 0, none⟩) (n + 1) c).ownBlock ≠ row) : RowAt w' b g n c xs :=
  ⟨h.1, World.ownsRow.kept h.2 hg hne⟩
theorem grown_pre {a b c : World} {row : Option Nat} (h : Below a.heap.size a b) (k : b.grownBy c row) : a.grownBy c row := grown_trans (grown_of_below h row) k
theorem RowAt.drewN {w : World} {b g n c : Nat} {xs : List Int} (h : RowAt w b g n c xs) (q : Nat) : RowAt (w.drewN q) b g n c xs := h
theorem OwnI.to {w : World} {b : Nat} {v : Value} {xs ys : List Int} (h : OwnI w b v xs) (e : xs = ys) : OwnI w b v ys := e ▸ h
/-- append(out, y) in a region that draws, out a row of the call's own -/
theorem step_appI {ops : Array Oper} {o : Oper} {a : Act} {K : Act → World → Prop} {Q : Exit → Act → World → Prop} {E : Prop} (hgd : o.guard = none) (s x : Operand)
    (ho : o.op = .call { callee := .builtin .append, args := #[s, x], argTypes := #[33, 33] }) (w : World) (base : Nat) (v : Value) (xs : List Int) (y : Int)
    (hs : a.eval s = v) (hown : OwnI w base v xs) (g : Nat) (hx : a.eval x = .slice (some ⟨g, 0, none⟩) 1 1) (hc : w.cell? ⟨g, 0, none⟩ = some (.int .i64 y)) (hlen : xs.length ≤ 10000000) (hbase : base ≤ w.heap.size)
    (h : ∀ v' w', OwnI w' base v' (xs ++ [y]) → w.grownBy w' v.ownBlock → K (a.put o.dst v') w') :
    if Region.wanted o (yielded ops a.tmps) = true then Oper.wp Tryz.prog o a w K Q else E := by
  have hw : Region.wanted o (yielded ops a.tmps) = true := by simp [Region.wanted, hgd]
  rw [if_pos hw]
  obtain ⟨i0, hi, hz0, hz1, hz2⟩ := info_parts infoI
  refine wp_append_own w s x 33 ho base 2 i0 (.int .i64 0) 1 8 Tryz.underlying33 hi hz0 hz1 hz2 rfl (by decide) v xs.length (xs.map (Value.int .i64)) hs hown
    ⟨g, 0, none⟩ 1 1 [.int .i64 y] hx rfl ?_ ?_ ?_ ?_ ?_ ?_
  · intro j u hu
    cases j with
    | zero => simp at hu; subst hu; exact hc
    | succ j => simp at hu
  · intro u hu; simp at hu; subst hu; rfl
  · unfold maxLen; omega
  · omega
  · exact hbase
  · intro v' w' hown' hgr _
    exact h v' w' (OwnI.snoc hown') hgr
set_option maxHeartbeats 800000 in
theorem i_dist (a b : ByteArray) (w : World) (ha : a.size ≤ 40) (hb : b.size ≤ 40) : Calls Tryz.prog 122 #[.string a, .string b] w fun e w' => e = .returned (.int .i64 (dist a.data.toList b.data.toList)) ∧ Below w.heap.size w w' := by
  go_enter Tryz.func122, Tryz.ntmps122
  go_wp2_with fail
  go_loopw [5, 15] (fun v i wr => ∃ k : Nat, k ≤ b.size + 1 ∧ i = .int .i64 k ∧ OwnI wr w.heap.size v (upto k) ∧ Below w.heap.size w wr) (fun _ i _ => b.size + 1 - (intOf i).toNat)
  case atStart => exact ⟨0, by omega, rfl, OwnI.lit0 w, below_alloc _ _⟩
  case round =>
    obtain ⟨k, hk, rfl, hown, hB⟩ := hrel
    have hlen := upto_len k
    have hw := hB.size
    by_cases hlt : k < b.size + 1
    · have HS := Lib.hid (upto_snoc k)
      go_wp2_with (at_builtin; refine wpList_appI rfl _ _ rfl _ _ _ _ _ rfl hown rfl (by omega) (by omega) ?_; intro v' w9 hown2 hg2)
      go_roundw
      case rel => exact ⟨k + 1, by omega, by go_num, by rw [← HS.out]; exact hown2, hown.below_grown hB hg2 (by omega)⟩
      case measure => simp [intOf]; omega
    · obtain rfl : k = b.size + 1 := by omega
      have hrow : upto (b.size + 1) = rowA a.data.toList b.data.toList b.size 0 := upto_row _ _ _
      rw [hrow] at hown hlen
      clear hrow
      go_wp2_with fail
      clear hw
      obtain ⟨g, c, rfl, hg, hrow⟩ := hown.row hlen
      clear hown hlen
      go_loopw [25] (fun i wr => ∃ k : Nat, k ≤ a.size ∧ i = .int .i64 k ∧ RowAt wr w.heap.size g b.size c (rowA a.data.toList b.data.toList b.size k) ∧ Below w.heap.size w wr) (fun i _ => a.size - (intOf i).toNat)
      case atStart => exact ⟨0, by omega, rfl, hrow, hB⟩
      case round =>
        clear hrow hB
        obtain ⟨i, hi, rfl, hrow, hB⟩ := hrel
        by_cases hlt : i < a.size
        · have c0 := hrow.cell 0 (by omega)
          rw [rowA_get _ _ _ _ _ (by omega), lv_i0] at c0
          have f0 := hrow.frozen 0
          have hst := hrow.set_ 0 ((i : Int) + 1) (rowA_set _ _ _ _)
          have HST := Lib.hid hst; clear hst
          go_wp2_with fail
          have hrow := HST.out
          have hB := hB.setCell (p := ⟨g, 0, none⟩) hg (.int .i64 ((i : Int) + 1))
          clear HST c0 f0
          go_loopw [8, 37] (fun l kk wr => ∃ k : Nat, k ≤ b.size ∧ kk = .int .i64 k ∧ l = .int .i64 (lv a.data.toList b.data.toList i k) ∧ RowAt wr w.heap.size g b.size c (rowM a.data.toList b.data.toList b.size i k) ∧ Below w.heap.size w wr) (fun _ kk _ => b.size - (intOf kk).toNat)
          case atStart => exact ⟨0, by omega, rfl, by rw [lv_i0], hrow, hB⟩
          case round =>
            clear hrow hB
            obtain ⟨k, hk, rfl, rfl, hrow, hB⟩ := hrel
            by_cases hlk : k < b.size
            · have c1 := hrow.cell (k + 1) (by omega)
              have c2 := hrow.cell k (by omega)
              rw [rowM_hi _ _ _ _ _ _ (by omega) (by omega)] at c1
              rw [rowM_lo _ _ _ _ _ _ (by omega) (by omega)] at c2
              have f1 := hrow.frozen (k + 1)
              have b1 := lv_bd a.data.toList b.data.toList i k
              have b2 := lv_bd a.data.toList b.data.toList i (k + 1)
              have b3 := lv_bd a.data.toList b.data.toList (i + 1) k
              have hset := fun W (h : RowAt W w.heap.size g b.size c (rowM a.data.toList b.data.toList b.size i k)) => h.set_ (k + 1) (lv a.data.toList b.data.toList (i + 1) (k + 1)) (rowM_set _ _ _ _ _)
              have HS := Lib.hid hset; clear hset
              have HR := Lib.hid hrow; clear hrow
              by_cases he : a[i] = b[k]
              · have hmin := lv_min a.data.toList b.data.toList i k (lv a.data.toList b.data.toList i k) (by rw [getD_at a i hlt, getD_at b k hlk, if_neg (by simpa using he), Int.add_zero])
                have ht : ((a[i].toNat : Int) != (b[k].toNat : Int)) = false := by rw [he]; simp
                clear he
                obtain ⟨x, hx⟩ : ∃ x, lv a.data.toList b.data.toList i k = x := ⟨_, rfl⟩
                obtain ⟨y, hy⟩ : ∃ y, lv a.data.toList b.data.toList i (k + 1) = y := ⟨_, rfl⟩
                obtain ⟨z, hz⟩ : ∃ z, lv a.data.toList b.data.toList (i + 1) k = z := ⟨_, rfl⟩
                rw [hx] at b1 hmin ⊢
                rw [hy] at b2 c1 hmin
                rw [hz] at b3 c2 hmin
                have HY := Lib.hid hy
                have HM := Lib.hid hmin
                clear hx hy hz hmin
                go_wp2_with fail
                go_quiet (fail)
                go_wp2_with fail
                go_roundw
                case rel => exact ⟨k + 1, by omega, by go_num, by rw [HY.out], by have := HS.out _ (HR.out.drewN nq); rw [← HM.out, ← mn1] at this; exact this, (below_drewN hB nq).setCell (p := ⟨g, k + 1, none⟩) hg _⟩
                case measure => simp [intOf]; omega
              · have hmin := lv_min a.data.toList b.data.toList i k (lv a.data.toList b.data.toList i k + 1) (by rw [getD_at a i hlt, getD_at b k hlk, if_pos he])
                have ht : ((a[i].toNat : Int) != (b[k].toNat : Int)) = true := by
                  have : (a[i].toNat : Int) ≠ (b[k].toNat : Int) := fun e => he (UInt8.toNat_inj.1 (by omega))
                  simpa using this
                clear he
                obtain ⟨x, hx⟩ : ∃ x, lv a.data.toList b.data.toList i k = x := ⟨_, rfl⟩
                obtain ⟨y, hy⟩ : ∃ y, lv a.data.toList b.data.toList i (k + 1) = y := ⟨_, rfl⟩
                obtain ⟨z, hz⟩ : ∃ z, lv a.data.toList b.data.toList (i + 1) k = z := ⟨_, rfl⟩
                rw [hx] at b1 hmin ⊢
                rw [hy] at b2 c1 hmin
                rw [hz] at b3 c2 hmin
                have HY := Lib.hid hy
                have HM := Lib.hid hmin
                clear hx hy hz hmin
                go_wp2_with fail
                go_quiet (fail)
                go_wp2_with fail
                go_roundw
                case rel => exact ⟨k + 1, by omega, by go_num, by rw [HY.out], by have := HS.out _ (HR.out.drewN nq); rw [← HM.out, ← mn2] at this; exact this, (below_drewN hB nq).setCell (p := ⟨g, k + 1, none⟩) hg _⟩
                case measure => simp [intOf]; omega
            · obtain rfl : k = b.size := by omega
              have hrow := hrow.to (rowM_end _ _ _ _)
              go_wp2_with fail
              go_roundw
              case rel => exact ⟨i + 1, by omega, by go_num, hrow, hB⟩
              case measure => simp [intOf]; omega
        · obtain rfl : i = a.size := by omega
          have c0 := hrow.cell b.size (by omega)
          have hd : (rowA a.data.toList b.data.toList b.size a.size)[b.size]! = dist a.data.toList b.data.toList := row_last _ _
          rw [hd] at c0
          clear hd hrow
          go_wp2_with fail
          go_ret
          exact ⟨rfl, hB⟩
set_option maxRecDepth 100000 in
set_option maxHeartbeats 1600000 in
theorem s_dist (a b : ByteArray) (w : World) (ha : a.size ≤ 40) (hb : b.size ≤ 40) : Calls Tryz.prog 120 #[.string a, .string b] w fun e w' => e = .returned (.int .i64 (dist a.data.toList b.data.toList)) ∧ Below w.heap.size w w' := by
  go_enter Tryz.func120, Tryz.ntmps120
  go_wp2_with fail
  go_loopw [5, 6] (fun v i wr => ∃ k : Nat, k ≤ b.size + 1 ∧ i = .int .i64 k ∧ OwnI wr w.heap.size v (upto k) ∧ Below w.heap.size w wr) (fun _ i _ => b.size + 1 - (intOf i).toNat)
  case atStart => exact ⟨0, by omega, rfl, OwnI.lit0 w, below_alloc _ _⟩
  case round =>
    obtain ⟨k, hk, rfl, hown, hB⟩ := hrel
    have hlen := upto_len k
    have hw := hB.size
    by_cases hlt : k < b.size + 1
    · have HS := Lib.hid (upto_snoc k)
      have hlt' : (k : Int) ≤ b.size := by omega
      go_wp2_with (at_builtin; refine wpList_appI rfl _ _ rfl _ _ _ _ _ rfl hown rfl (by omega) (by omega) ?_; intro v' w9 hown2 hg2)
      go_roundw
      case rel => exact ⟨k + 1, by omega, by go_num, by rw [← HS.out]; exact hown2, hown.below_grown hB hg2 (by omega)⟩
      case measure => simp [intOf]; omega
    · obtain rfl : k = b.size + 1 := by omega
      have hrow : upto (b.size + 1) = rowA a.data.toList b.data.toList b.size 0 := upto_row _ _ _
      rw [hrow] at hown hlen
      clear hrow
      go_wp2_with fail
      clear hw
      go_loopw [5, 7] (fun v ii wr => ∃ i : Nat, i ≤ a.size ∧ ii = .int .i64 i ∧ OwnI wr w.heap.size v (rowA a.data.toList b.data.toList b.size i) ∧ Below w.heap.size w wr) (fun _ ii _ => a.size - (intOf ii).toNat)
      case atStart => exact ⟨0, by omega, rfl, hown, hB⟩
      case round =>
        clear hown hB hlen
        obtain ⟨i, hi, rfl, hown, hB⟩ := hrel
        have hlen := rowA_len a.data.toList b.data.toList b.size i
        by_cases hlt : i < a.size
        · have h0 := rowN_0 a.data.toList b.data.toList i
          have H0 := Lib.hid h0; clear h0
          have HB := hB
          clear hB
          obtain ⟨g, c, rfl, hg, hrow⟩ := hown.row hlen
          clear hlen
          go_wp2_with fail
          obtain ⟨wo, hwo⟩ : ∃ wo : World, wo = wr := ⟨_, rfl⟩
          rw [← hwo] at hown hrow HB ⊢
          clear hwo
          go_loopw [8, 9] (fun vn kk wr => ∃ k : Nat, k ≤ b.size ∧ kk = .int .i64 k ∧ OwnI wr wo.heap.size vn (rowN a.data.toList b.data.toList i k) ∧ RowAt wr w.heap.size g b.size c (rowA a.data.toList b.data.toList b.size i) ∧ Below w.heap.size w wr ∧ wo.heap.size ≤ wr.heap.size) (fun _ kk _ => b.size - (intOf kk).toNat)
          case atStart => exact ⟨0, by omega, rfl, by rw [H0.out]; exact OwnI.lit wo [(i : Int) + 1], hrow.alloc _, below_more HB HB.size _, by simp⟩
          case round =>
            obtain ⟨k, hk, rfl, hnext, hrow1, hB, hsz⟩ := hrel
            have hln := rowN_len a.data.toList b.data.toList i k
            by_cases hlk : k < b.size
            · obtain ⟨gn, cn, rfl, hgn, hrn⟩ := hnext.row hln
              have c0 := hrow1.cell k (by omega)
              have c1 := hrow1.cell (k + 1) (by omega)
              have c2 := hrn.cell k (by omega)
              rw [rowA_get _ _ _ _ _ (by omega)] at c0 c1
              rw [rowN_get _ _ _ _ _ (by omega)] at c2
              have b1 := lv_bd a.data.toList b.data.toList i k
              have b2 := lv_bd a.data.toList b.data.toList i (k + 1)
              have b3 := lv_bd a.data.toList b.data.toList (i + 1) k
              by_cases he : a[i] = b[k]
              · have hmin := lv_min a.data.toList b.data.toList i k (lv a.data.toList b.data.toList i k) (by rw [getD_at a i hlt, getD_at b k hlk, if_neg (by simpa using he), Int.add_zero])
                have ht : ((a[i].toNat : Int) != (b[k].toNat : Int)) = false := by rw [he]; simp
                clear he
                obtain ⟨x, hx⟩ : ∃ x, lv a.data.toList b.data.toList i k = x := ⟨_, rfl⟩
                obtain ⟨y, hy⟩ : ∃ y, lv a.data.toList b.data.toList i (k + 1) = y := ⟨_, rfl⟩
                obtain ⟨z, hz⟩ : ∃ z, lv a.data.toList b.data.toList (i + 1) k = z := ⟨_, rfl⟩
                rw [hx] at b1 c0 hmin
                rw [hy] at b2 c1 hmin
                rw [hz] at b3 c2 hmin
                have hsn := rowN_snoc a.data.toList b.data.toList i k
                rw [← hmin, ← mn1] at hsn
                have HSN := Lib.hid hsn
                clear hx hy hz hmin hsn
                go_wp2_with fail
                go_quiet (fail)
                go_wp2_with fail
                have w1 : IntKind.i64.wrap ((k : Int) + 1) = (k : Int) + 1 := IntWalk.i64_in _ (by omega)
                have w2 : IntKind.i64.wrap (y + 1) = y + 1 := IntWalk.i64_in _ (by omega)
                have w3 : IntKind.i64.wrap (z + 1) = z + 1 := IntWalk.i64_in _ (by omega)
                have w4 : 0 ≤ (k : Int) + 1 := by omega
                have w5 : ((k : Int) + 1).toNat = k + 1 := by omega
                have w6 : (k : Int) < (k : Int) + 1 := by omega
                have w7 : (k : Int) < ((k + 1 : Nat) : Int) := by omega
                have w8 : 0 ≤ (k : Int) := by omega
                go_region_law (refine step_appI rfl (.tmp 50) (.tmp 64) rfl _ wo.heap.size (.slice (some ⟨gn, 0, none⟩) (k + 1) cn) (rowN a.data.toList b.data.toList i k) (if z + 1 < if y + 1 < x then y + 1 else x then z + 1 else if y + 1 < x then y + 1 else x) (by rfl) (by first | exact (hnext.alloc _).drewN _ | exact hnext.alloc _) wr.heap.size (by rfl) (by first | exact ((Blk.new wr _ _).drewN _).c0 | exact (Blk.new wr _ _).c0) (by omega) (by simp; omega) ?_; intro v' w9 hown2 hg2)
                all_goals
                  clear w1 w2 w3 w4 w5 w6 w7 w8
                  have hg3 := grown_pre (below_drewN (below_alloc wr _) _) hg2
                  have hB3 := hB.grown hg3 hB.size (fun k' hk' => Nat.le_trans HB.size (hnext.lt k' hk').1)
                  have hrow3 := hrow1.kept hg3 (own_ne hown hnext (Nat.le_refl _))
                  have hsz3 := Nat.le_trans hsz hg3.size
                  clear hg2 hg3 hnext hrow1 hB hsz c0 c1 c2
                  have hown2 := hown2.to HSN.out
                  go_wp2_with fail
                  all_goals
                    refine ⟨⟨k + 1, by omega, by go_num, hown2⟩, ?_⟩
                    simp [intOf]; omega
              · have hmin := lv_min a.data.toList b.data.toList i k (lv a.data.toList b.data.toList i k + 1) (by rw [getD_at a i hlt, getD_at b k hlk, if_pos he])
                have ht : ((a[i].toNat : Int) != (b[k].toNat : Int)) = true := by
                  have : (a[i].toNat : Int) ≠ (b[k].toNat : Int) := fun e => he (UInt8.toNat_inj.1 (by omega))
                  simpa using this
                clear he
                obtain ⟨x, hx⟩ : ∃ x, lv a.data.toList b.data.toList i k = x := ⟨_, rfl⟩
                obtain ⟨y, hy⟩ : ∃ y, lv a.data.toList b.data.toList i (k + 1) = y := ⟨_, rfl⟩
                obtain ⟨z, hz⟩ : ∃ z, lv a.data.toList b.data.toList (i + 1) k = z := ⟨_, rfl⟩
                rw [hx] at b1 c0 hmin
                rw [hy] at b2 c1 hmin
                rw [hz] at b3 c2 hmin
                have hsn := rowN_snoc a.data.toList b.data.toList i k
                rw [← hmin, ← mn2] at hsn
                have HSN := Lib.hid hsn
                clear hx hy hz hmin hsn
                go_wp2_with fail
                go_quiet (fail)
                go_wp2_with fail
                have w1 : IntKind.i64.wrap ((k : Int) + 1) = (k : Int) + 1 := IntWalk.i64_in _ (by omega)
                have w2 : IntKind.i64.wrap (y + 1) = y + 1 := IntWalk.i64_in _ (by omega)
                have w3 : IntKind.i64.wrap (z + 1) = z + 1 := IntWalk.i64_in _ (by omega)
                have w4 : 0 ≤ (k : Int) + 1 := by omega
                have w5 : ((k : Int) + 1).toNat = k + 1 := by omega
                have w6 : (k : Int) < (k : Int) + 1 := by omega
                have w7 : (k : Int) < ((k + 1 : Nat) : Int) := by omega
                have w8 : 0 ≤ (k : Int) := by omega
                go_region_law (refine step_appI rfl (.tmp 50) (.tmp 64) rfl _ wo.heap.size (.slice (some ⟨gn, 0, none⟩) (k + 1) cn) (rowN a.data.toList b.data.toList i k) (if z + 1 < if y < x then y + 1 else x + 1 then z + 1 else if y < x then y + 1 else x + 1) (by rfl) (by first | exact (hnext.alloc _).drewN _ | exact hnext.alloc _) wr.heap.size (by rfl) (by first | exact ((Blk.new wr _ _).drewN _).c0 | exact (Blk.new wr _ _).c0) (by omega) (by simp; omega) ?_; intro v' w9 hown2 hg2)
                all_goals
                  clear w1 w2 w3 w4 w5 w6 w7 w8
                  have hg3 := grown_pre (below_drewN (below_alloc wr _) _) hg2
                  have hB3 := hB.grown hg3 hB.size (fun k' hk' => Nat.le_trans HB.size (hnext.lt k' hk').1)
                  have hrow3 := hrow1.kept hg3 (own_ne hown hnext (Nat.le_refl _))
                  have hsz3 := Nat.le_trans hsz hg3.size
                  clear hg2 hg3 hnext hrow1 hB hsz c0 c1 c2
                  have hown2 := hown2.to HSN.out
                  go_wp2_with fail
                  all_goals
                    refine ⟨⟨k + 1, by omega, by go_num, hown2⟩, ?_⟩
                    simp [intOf]; omega
            · obtain rfl : k = b.size := by omega
              go_wp2_with fail
              go_roundw
              case rel => exact ⟨i + 1, by omega, by go_num, by rw [← rowN_end]; exact hnext.mono HB.size, hB⟩
              case measure => simp [intOf]; omega
        · obtain rfl : i = a.size := by omega
          obtain ⟨g, c, rfl, hg, hrow⟩ := hown.row hlen
          have c0 := hrow.cell b.size (by omega)
          have hd : (rowA a.data.toList b.data.toList b.size a.size)[b.size]! = dist a.data.toList b.data.toList := row_last _ _
          rw [hd] at c0
          clear hd hrow hown hlen
          go_wp2_with fail
          go_ret
          exact ⟨rfl, hB⟩
end Go.Proofs.YtelppggliieniaaGreatDoor
