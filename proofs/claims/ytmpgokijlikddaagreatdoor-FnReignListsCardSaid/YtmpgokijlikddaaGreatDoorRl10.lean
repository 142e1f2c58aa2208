/- Texts put together: Has RlL. No condition beyond those that stand in each. -/
import Derived.Test.YtmpgokijlikddaaGreatDoorRl1
import Derived.Test.YtmpgokijlikddaaGreatDoorNum
import Derived.Deep.RegionHeld3
import Derived.IntWalk
import Derived.Test.YtmpgokijlikddaaGreatDoorRl6
import Derived.Test.YtmpgokijlikddaaGreatDoorRl9
import Derived.Test.YtmpgokijlikddaaGreatDoorRl8
/- HasDay of the program over a set of spans: whether a day is in it. Conditions: how the slice lies; that its spans lie apart and have days. -/
namespace Go.Proofs.YtmpgokijlikddaaGreatDoor
open Go.RowKit
theorem norm_next : ∀ {l : List Sp}, norm l → ∀ j, j + 1 < l.length → (l.getD j sp0).2 + 2 ≤ (l.getD (j + 1) sp0).1
  | [], _, j, h => absurd h (Nat.not_lt_zero _)
  | [_], _, j, h => by simp at h
  | s :: t :: l, hn, 0, _ => hn.2.1 t (List.mem_cons_self ..)
  | s :: t :: l, hn, j + 1, h => by
    have := norm_next hn.2.2 j (by simpa using h)
    simpa using this
theorem getD_memH {l : List Sp} {j : Nat} (h : j < l.length) : l.getD j sp0 ∈ l := by
  rw [List.getD_eq_getElem?_getD, List.getElem?_eq_getElem h]
  exact List.getElem_mem h
/-- a list of spans that the program takes for a set -/
def setP (l : List Sp) : Prop := norm l ∧ l.length ≤ 300 ∧ ∀ s ∈ l, 0 ≤ s.1 ∧ s.1 ≤ s.2 ∧ s.2 ≤ 730499
set_option maxRecDepth 100000 in
set_option maxHeartbeats 2000000 in
theorem i_IsSet {b : Nat} {v : Value} {l : List Sp} (w : World) (h : OwnP w b v l) (hs : setP l) : Calls Tryz.prog 90 #[v] w fun e w' => e = .returned (.bool true) ∧ Below w.heap.size w w' := by
  obtain ⟨hl, A1, c1, rfl, p1⟩ := h.opened
  obtain ⟨hn, hlen, hb⟩ := hs
  have HB := Lib.hid (fun j hj => hb _ (getD_memH (l := l) (j := j) hj))
  have HN := Lib.hid (fun j hj => norm_next hn j hj)
  clear h hb hn
  obtain ⟨n, hn⟩ : ∃ n, l.length = n := ⟨_, rfl⟩
  rw [hn] at p1 hl hlen HB HN ⊢
  clear hn
  have P1 := Lib.hid p1; clear p1
  go_enter Tryz.func90, Tryz.ntmps90
  go_wp2_with fail
  go_loopw [7] (fun i wr => ∃ k : Nat, k ≤ n ∧ i = .int .i64 k ∧ Below w.heap.size w wr) (fun i _ => n - (intOf i).toNat)
  case atStart => exact ⟨0, by omega, rfl, Below.refl _ _⟩
  case round =>
    obtain ⟨k, hk, rfl, L⟩ := hrel
    by_cases hlt : k < n
    · obtain ⟨g1, rfl, _, hg1, hc1, _⟩ := P1.out (by omega)
      obtain ⟨x0, x1⟩ := hc1 k hlt
      obtain ⟨q0, q1, q2⟩ := HB.out k hlt
      have l1 := Nat.lt_of_lt_of_le hg1 L.size
      replace x0 := (L.cell (p := ⟨g1, k * 2, none⟩) hg1).trans x0
      replace x1 := (L.cell (p := ⟨g1, k * 2 + 1, none⟩) hg1).trans x1
      by_cases hk0 : k = 0
      · subst hk0
        obtain ⟨s, hs⟩ : ∃ s, l.getD 0 sp0 = s := ⟨_, rfl⟩
        rw [hs] at x0 x1 q0 q1 q2
        clear hs hc1
        obtain ⟨x, y⟩ := s
        dsimp only at x0 x1 q0 q1 q2
        have d0 : inB x 0 730499 = true := inB_iff.2 ⟨by omega, by omega⟩
        have d1 : inB y 0 730499 = true := inB_iff.2 ⟨by omega, by omega⟩
        have X := Blk.new wr 47 #[.int .i64 x, .int .i64 y]
        have y0 := X.c0
        have y1 := X.c1
        have hx := X.lt
        have hxy : decide (y < x) = false := by simp; omega
        go_wp2_with fail
        refine wp_region_any (by kernel_rfl) ?_
        change wpAny _ _ _ _ _ _ _ (World.drew _)
        refine wpAny_take (i := 0) (v := _) rfl (by kernel_rfl) (by kernel_rfl) (by kernel_rfl) (fun _ _ _ h => h) (Or.inl ⟨by kernel_rfl, fun W => by first | rfl | go_simp⟩) ?_
        simp only [Act.put]
        refine wpAny_ready (rs := [1]) (by kernel_rfl) (by simp) ?_
        refine AllReady.cons rfl (fun K hK => ?_) AllReady.nil
        go_simp
        refine hK _ _ ?_
        clear hK K
        refine wpAny_ready (rs := [2]) (by kernel_rfl) (by simp) ?_
        refine AllReady.cons rfl (fun K hK => ?_) AllReady.nil
        go_simp
        go_wp2_with (go_at_call 91; refine (toB (i_day _ _) (by assumption)).mono ?_; rintro e w3 ⟨rfl, rfl⟩)
        refine wpAny_take (i := 3) (v := _) rfl (by kernel_rfl) (by kernel_rfl) (by kernel_rfl) (fun _ _ _ h => h) (Or.inl ⟨by kernel_rfl, fun W => by first | rfl | go_simp⟩) ?_
        simp only [Act.put]
        refine wpAny_take (i := 4) (v := _) rfl (by kernel_rfl) (by kernel_rfl) (by kernel_rfl) (fun _ _ _ h => h) (Or.inl ⟨by kernel_rfl, fun W => by first | rfl | go_simp⟩) ?_
        simp only [Act.put]
        refine wpAny_take (i := 5) (v := _) rfl (by kernel_rfl) (by kernel_rfl) (by kernel_rfl) (fun _ _ _ h => h) (Or.inl ⟨by kernel_rfl, fun W => by first | rfl | go_simp⟩) ?_
        simp only [Act.put]
        refine wpAny_ready (rs := [6]) (by kernel_rfl) (by simp) ?_
        refine AllReady.cons rfl (fun K hK => ?_) AllReady.nil
        go_simp
        refine hK _ _ ?_
        clear hK K
        refine wpAny_ready (rs := [7]) (by kernel_rfl) (by simp) ?_
        refine AllReady.cons rfl (fun K hK => ?_) AllReady.nil
        go_simp
        go_wp2_with (go_at_call 91; refine (toB (i_day _ _) (by assumption)).mono ?_; rintro e w3 ⟨rfl, rfl⟩)
        refine wpAny_take (i := 8) (v := _) rfl (by kernel_rfl) (by kernel_rfl) (by kernel_rfl) (fun _ _ _ h => h) (Or.inl ⟨by kernel_rfl, fun W => by first | rfl | go_simp⟩) ?_
        simp only [Act.put]
        refine wpAny_take (i := 9) (v := _) rfl (by kernel_rfl) (by kernel_rfl) (by kernel_rfl) (fun _ _ _ h => h) (Or.inl ⟨by kernel_rfl, fun W => by first | rfl | go_simp⟩) ?_
        simp only [Act.put]
        refine wpAny_take (i := 10) (v := _) rfl (by kernel_rfl) (by kernel_rfl) (by kernel_rfl) (fun _ _ _ h => h) (Or.inl ⟨by kernel_rfl, fun W => by first | rfl | go_simp⟩) ?_
        simp only [Act.put]
        refine wpAny_take (i := 11) (v := _) rfl (by kernel_rfl) (by kernel_rfl) (by kernel_rfl) (fun _ _ _ h => h) (Or.inl ⟨by kernel_rfl, fun W => by first | rfl | go_simp⟩) ?_
        simp only [Act.put]
        refine wpAny_take (i := 13) (v := _) rfl (by kernel_rfl) (by kernel_rfl) (by kernel_rfl) (fun _ _ _ h => h) (Or.inl ⟨by kernel_rfl, fun W => by first | rfl | go_simp⟩) ?_
        simp only [Act.put]
        refine wpAny_ready (rs := [12, 14]) (by kernel_rfl) (by simp) ?_
        refine AllReady.cons rfl (fun K hK => ?_) (AllReady.cons rfl (fun K hK => ?_) AllReady.nil)
        · go_simp
          refine hK _ _ ?_
          clear hK K
          refine wpAny_ready (rs := [14]) (by kernel_rfl) (by simp) ?_
          refine AllReady.cons rfl (fun K hK => ?_) AllReady.nil
          go_simp
          refine hK _ _ ?_
          clear hK K
          refine wpAny_take (i := 15) (v := .bool false) rfl (by kernel_rfl) (by kernel_rfl) (by kernel_rfl) (fun _ _ _ h => h) (Or.inl ⟨by kernel_rfl, fun W => by first | rfl | go_simp⟩) ?_
          simp only [Act.put]
          refine wpAny_take (i := 16) (v := .bool false) rfl (by kernel_rfl) (by kernel_rfl) (by kernel_rfl) (fun _ _ _ h => h) (Or.inl ⟨by kernel_rfl, fun W => by first | rfl | go_simp⟩) ?_
          simp only [Act.put]
          refine wpAny_take (i := 17) (v := .bool false) rfl (by kernel_rfl) (by kernel_rfl) (by kernel_rfl) (fun _ _ _ h => h) (Or.inl ⟨by kernel_rfl, fun W => by first | rfl | go_simp⟩) ?_
          simp only [Act.put]
          refine wpAny_take (i := 18) (v := _) rfl (by kernel_rfl) (by kernel_rfl) (by kernel_rfl) (fun _ _ _ h => h) (Or.inl ⟨by kernel_rfl, fun W => by first | rfl | go_simp⟩) ?_
          simp only [Act.put]
          refine wpAny_take (i := 19) (v := .bool false) rfl (by kernel_rfl) (by kernel_rfl) (by kernel_rfl) (fun _ _ _ h => h) (Or.inl ⟨by kernel_rfl, fun W => by first | rfl | go_simp⟩) ?_
          simp only [Act.put]
          refine wpAny_take (i := 20) (v := .bool false) rfl (by kernel_rfl) (by kernel_rfl) (by kernel_rfl) (fun _ _ _ h => h) (Or.inl ⟨by kernel_rfl, fun W => by first | rfl | go_simp⟩) ?_
          simp only [Act.put]
          refine wpAny_take (i := 21) (v := undef) rfl (by kernel_rfl) (by kernel_rfl) (by kernel_rfl) (fun _ _ _ h => h) (Or.inr ⟨by kernel_rfl, rfl⟩) ?_
          simp only [Act.put]
          refine wpAny_take (i := 22) (v := undef) rfl (by kernel_rfl) (by kernel_rfl) (by kernel_rfl) (fun _ _ _ h => h) (Or.inr ⟨by kernel_rfl, rfl⟩) ?_
          simp only [Act.put]
          refine wpAny_take (i := 23) (v := undef) rfl (by kernel_rfl) (by kernel_rfl) (by kernel_rfl) (fun _ _ _ h => h) (Or.inr ⟨by kernel_rfl, rfl⟩) ?_
          simp only [Act.put]
          refine wpAny_take (i := 24) (v := undef) rfl (by kernel_rfl) (by kernel_rfl) (by kernel_rfl) (fun _ _ _ h => h) (Or.inr ⟨by kernel_rfl, rfl⟩) ?_
          simp only [Act.put]
          refine wpAny_take (i := 25) (v := undef) rfl (by kernel_rfl) (by kernel_rfl) (by kernel_rfl) (fun _ _ _ h => h) (Or.inr ⟨by kernel_rfl, rfl⟩) ?_
          simp only [Act.put]
          refine wpAny_take (i := 26) (v := undef) rfl (by kernel_rfl) (by kernel_rfl) (by kernel_rfl) (fun _ _ _ h => h) (Or.inr ⟨by kernel_rfl, rfl⟩) ?_
          simp only [Act.put]
          refine wpAny_take (i := 27) (v := undef) rfl (by kernel_rfl) (by kernel_rfl) (by kernel_rfl) (fun _ _ _ h => h) (Or.inr ⟨by kernel_rfl, rfl⟩) ?_
          simp only [Act.put]
          refine wpAny_take (i := 28) (v := undef) rfl (by kernel_rfl) (by kernel_rfl) (by kernel_rfl) (fun _ _ _ h => h) (Or.inr ⟨by kernel_rfl, rfl⟩) ?_
          simp only [Act.put]
          refine wpAny_take (i := 29) (v := undef) rfl (by kernel_rfl) (by kernel_rfl) (by kernel_rfl) (fun _ _ _ h => h) (Or.inr ⟨by kernel_rfl, rfl⟩) ?_
          simp only [Act.put]
          refine wpAny_take (i := 30) (v := undef) rfl (by kernel_rfl) (by kernel_rfl) (by kernel_rfl) (fun _ _ _ h => h) (Or.inr ⟨by kernel_rfl, rfl⟩) ?_
          simp only [Act.put]
          refine wpAny_ready (rs := [31]) (by kernel_rfl) (by simp) ?_
          refine AllReady.cons rfl (fun K hK => ?_) AllReady.nil
          go_simp
          refine hK _ _ ?_
          clear hK K
          refine wpAny_ready (rs := [32]) (by kernel_rfl) (by simp) ?_
          refine AllReady.cons rfl (fun K hK => ?_) AllReady.nil
          go_simp
          refine hK _ _ ?_
          clear hK K
          refine wpAny_done (by kernel_rfl) ?_ _
          go_wp2_with fail
          go_roundw
          case rel => exact ⟨1, by omega, by go_num, (below_more L L.size _).drew⟩
          case measure => simp [intOf]; omega
        · go_simp
          refine hK _ _ ?_
          clear hK K
          refine wpAny_ready (rs := [12]) (by kernel_rfl) (by simp) ?_
          refine AllReady.cons rfl (fun K hK => ?_) AllReady.nil
          go_simp
          refine hK _ _ ?_
          clear hK K
          refine wpAny_take (i := 15) (v := .bool false) rfl (by kernel_rfl) (by kernel_rfl) (by kernel_rfl) (fun _ _ _ h => h) (Or.inl ⟨by kernel_rfl, fun W => by first | rfl | go_simp⟩) ?_
          simp only [Act.put]
          refine wpAny_take (i := 16) (v := .bool false) rfl (by kernel_rfl) (by kernel_rfl) (by kernel_rfl) (fun _ _ _ h => h) (Or.inl ⟨by kernel_rfl, fun W => by first | rfl | go_simp⟩) ?_
          simp only [Act.put]
          refine wpAny_take (i := 17) (v := .bool false) rfl (by kernel_rfl) (by kernel_rfl) (by kernel_rfl) (fun _ _ _ h => h) (Or.inl ⟨by kernel_rfl, fun W => by first | rfl | go_simp⟩) ?_
          simp only [Act.put]
          refine wpAny_take (i := 18) (v := _) rfl (by kernel_rfl) (by kernel_rfl) (by kernel_rfl) (fun _ _ _ h => h) (Or.inl ⟨by kernel_rfl, fun W => by first | rfl | go_simp⟩) ?_
          simp only [Act.put]
          refine wpAny_take (i := 19) (v := .bool false) rfl (by kernel_rfl) (by kernel_rfl) (by kernel_rfl) (fun _ _ _ h => h) (Or.inl ⟨by kernel_rfl, fun W => by first | rfl | go_simp⟩) ?_
          simp only [Act.put]
          refine wpAny_take (i := 20) (v := .bool false) rfl (by kernel_rfl) (by kernel_rfl) (by kernel_rfl) (fun _ _ _ h => h) (Or.inl ⟨by kernel_rfl, fun W => by first | rfl | go_simp⟩) ?_
          simp only [Act.put]
          refine wpAny_take (i := 21) (v := undef) rfl (by kernel_rfl) (by kernel_rfl) (by kernel_rfl) (fun _ _ _ h => h) (Or.inr ⟨by kernel_rfl, rfl⟩) ?_
          simp only [Act.put]
          refine wpAny_take (i := 22) (v := undef) rfl (by kernel_rfl) (by kernel_rfl) (by kernel_rfl) (fun _ _ _ h => h) (Or.inr ⟨by kernel_rfl, rfl⟩) ?_
          simp only [Act.put]
          refine wpAny_take (i := 23) (v := undef) rfl (by kernel_rfl) (by kernel_rfl) (by kernel_rfl) (fun _ _ _ h => h) (Or.inr ⟨by kernel_rfl, rfl⟩) ?_
          simp only [Act.put]
          refine wpAny_take (i := 24) (v := undef) rfl (by kernel_rfl) (by kernel_rfl) (by kernel_rfl) (fun _ _ _ h => h) (Or.inr ⟨by kernel_rfl, rfl⟩) ?_
          simp only [Act.put]
          refine wpAny_take (i := 25) (v := undef) rfl (by kernel_rfl) (by kernel_rfl) (by kernel_rfl) (fun _ _ _ h => h) (Or.inr ⟨by kernel_rfl, rfl⟩) ?_
          simp only [Act.put]
          refine wpAny_take (i := 26) (v := undef) rfl (by kernel_rfl) (by kernel_rfl) (by kernel_rfl) (fun _ _ _ h => h) (Or.inr ⟨by kernel_rfl, rfl⟩) ?_
          simp only [Act.put]
          refine wpAny_take (i := 27) (v := undef) rfl (by kernel_rfl) (by kernel_rfl) (by kernel_rfl) (fun _ _ _ h => h) (Or.inr ⟨by kernel_rfl, rfl⟩) ?_
          simp only [Act.put]
          refine wpAny_take (i := 28) (v := undef) rfl (by kernel_rfl) (by kernel_rfl) (by kernel_rfl) (fun _ _ _ h => h) (Or.inr ⟨by kernel_rfl, rfl⟩) ?_
          simp only [Act.put]
          refine wpAny_take (i := 29) (v := undef) rfl (by kernel_rfl) (by kernel_rfl) (by kernel_rfl) (fun _ _ _ h => h) (Or.inr ⟨by kernel_rfl, rfl⟩) ?_
          simp only [Act.put]
          refine wpAny_take (i := 30) (v := undef) rfl (by kernel_rfl) (by kernel_rfl) (by kernel_rfl) (fun _ _ _ h => h) (Or.inr ⟨by kernel_rfl, rfl⟩) ?_
          simp only [Act.put]
          refine wpAny_ready (rs := [31]) (by kernel_rfl) (by simp) ?_
          refine AllReady.cons rfl (fun K hK => ?_) AllReady.nil
          go_simp
          refine hK _ _ ?_
          clear hK K
          refine wpAny_ready (rs := [32]) (by kernel_rfl) (by simp) ?_
          refine AllReady.cons rfl (fun K hK => ?_) AllReady.nil
          go_simp
          refine hK _ _ ?_
          clear hK K
          refine wpAny_done (by kernel_rfl) ?_ _
          go_wp2_with fail
          go_roundw
          case rel => exact ⟨1, by omega, by go_num, (below_more L L.size _).drew⟩
          case measure => simp [intOf]; omega
      · obtain ⟨j, hjk⟩ : ∃ j, k = j + 1 := ⟨k - 1, by omega⟩
        obtain ⟨_, z1⟩ := hc1 j (by omega)
        replace z1 := (L.cell (p := ⟨g1, j * 2 + 1, none⟩) hg1).trans z1
        have hnx := HN.out j (by omega)
        obtain ⟨q4, q5, q3⟩ := HB.out j (by omega)
        have q6 : 0 ≤ (l.getD j sp0).2 := by omega
        clear q4 q5
        rw [← hjk] at hnx
        obtain ⟨s, hs⟩ : ∃ s, l.getD k sp0 = s := ⟨_, rfl⟩
        rw [hs] at x0 x1 q0 q1 q2 hnx
        obtain ⟨z, hz⟩ : ∃ z, (l.getD j sp0).2 = z := ⟨_, rfl⟩
        rw [hz] at z1 hnx q3 q6
        clear hs hz hc1
        obtain ⟨x, y⟩ := s
        dsimp only at x0 x1 q0 q1 q2 hnx
        have d0 : inB x 0 730499 = true := inB_iff.2 ⟨by omega, by omega⟩
        have d1 : inB y 0 730499 = true := inB_iff.2 ⟨by omega, by omega⟩
        have X := Blk.new wr 47 #[.int .i64 x, .int .i64 y]
        have y0 := X.c0
        have y1 := X.c1
        have hx := X.lt
        have z2 : (wr.alloc (.cells #[.int .i64 x, .int .i64 y] 47)).cell? ⟨g1, j * 2 + 1, none⟩ = some (.int .i64 z) := ((below_alloc wr _).cell (p := ⟨g1, j * 2 + 1, none⟩) l1).trans z1
        have hxy : decide (y < x) = false := by simp; omega
        have hxz : decide (x < z + 2) = false := by simp; omega
        have hz2 : IntKind.i64.wrap (z + 2) = z + 2 := IntWalk.i64_in _ (by omega)
        have hsub : IntKind.i64.wrap ((k : Int) - 1) = (j : Int) := by rw [IntWalk.i64_in _ (by omega)]; omega
        have hjn : j < n := by omega
        have hpos : 0 < k := by omega
        have hpos2 : decide (0 < k) = true := by simp [hpos]
        have hpos3 : (0 : Int) < (k : Int) := by omega
        have hzx : z + 2 ≤ x := by omega
        have hyx : x ≤ y := by omega
        clear hjk hk0
        go_wp2_with fail
        go_region_held3 (fun W => W.cell? ⟨wr.heap.size, 0, none⟩ = some (.int .i64 x) ∧ W.cell? ⟨wr.heap.size, 1, none⟩ = some (.int .i64 y) ∧ W.cell? ⟨g1, j * 2 + 1, none⟩ = some (.int .i64 z))
          (first | go_keep | exact ⟨y0, y1, z2⟩)
          (first | (go_at_call 91; refine (toB (i_day _ _) (by assumption)).mono ?_; rintro e w3 ⟨rfl, rfl⟩))
        go_wp2_with fail
        go_roundw
        case rel => exact ⟨k + 1, by omega, by go_num, (below_more L L.size _).drew⟩
        case measure => simp [intOf]; omega
    · obtain rfl : k = n := by omega
      have h300 : decide ((k : Int) ≤ 300) = true := by simp; omega
      go_wp2_with fail
      go_ret
      exact ⟨rfl, L⟩
theorem i_has1 (n : Int) (s : Sp) (bn : Nat) (w : World) (hc : w.cell? ⟨bn, 0, none⟩ = some (.int .i64 n)) (hb : bn < w.heap.size) : Calls Tryz.prog 152 #[.agg #[.int .i64 s.1, .int .i64 s.2], .pointer (some ⟨bn, 0, none⟩)] w fun e w' => e = .returned (.bool (inB n s.1 s.2)) ∧ Below w.heap.size w w' := by
  obtain ⟨x, y⟩ := s
  dsimp only
  go_enter Tryz.func152, Tryz.ntmps152
  go_wp2_with fail
  refine (i_in _ _ _ _).mono ?_
  rintro e w1 ⟨rfl, rfl⟩
  go_wp2_with fail
  go_ret
  exact ⟨rfl, below_alloc _ _⟩
def hasB (l : List Sp) (n : Int) : Bool := l.any fun s => inB n s.1 s.2
theorem hasB_cov {l : List Sp} {n : Int} : hasB l n = true ↔ cov l n := by
  unfold hasB cov
  rw [List.any_eq_true]
  constructor
  · rintro ⟨s, hs, h⟩; exact ⟨s, hs, inB_iff.1 h⟩
  · rintro ⟨s, hs, h⟩; exact ⟨s, hs, inB_iff.2 h⟩
theorem has_take (l : List Sp) (n : Int) (k : Nat) (h : k < l.length) : hasB (l.take (k + 1)) n = (hasB (l.take k) n || inB n (l.getD k sp0).1 (l.getD k sp0).2) := by
  unfold hasB
  rw [List.take_succ_eq_append_getElem h, List.any_append, List.getD_eq_getElem?_getD, List.getElem?_eq_getElem h]; simp
theorem has_yes (l : List Sp) (n : Int) (k : Nat) (h : k < l.length) (hp : inB n (l.getD k sp0).1 (l.getD k sp0).2 = true) : hasB l n = true := by
  have e : hasB l n = (hasB (l.take (k + 1)) n || hasB (l.drop (k + 1)) n) := by
    unfold hasB; rw [← List.any_append, List.take_append_drop]
  rw [e, has_take l n k h, hp]; simp
set_option maxRecDepth 100000 in
set_option maxHeartbeats 1000000 in
theorem i_hidx {b : Nat} {v : Value} {l : List Sp} (m : Int) (bn : Nat) (w : World) (h : OwnP w b v l) (hc : w.cell? ⟨bn, 0, none⟩ = some (.int .i64 m)) (hb : bn < w.heap.size) :
    Calls Tryz.prog 200 #[v, .func (.func 152) #[] #[.pointer (some ⟨bn, 0, none⟩)]] w fun e w' => ∃ r : Int, e = .returned (.int .i64 r) ∧ ((hasB l m = false ∧ r = -1) ∨ (hasB l m = true ∧ 0 ≤ r)) ∧ Below w.heap.size w w' := by
  obtain ⟨hl, A, c, rfl, p⟩ := h.opened
  have P := Lib.hid p; clear p h
  have HY := Lib.hid (fun k hk => has_take l m k hk)
  have HN := Lib.hid (fun k hk => has_yes l m k hk)
  have hend : hasB (l.take l.length) m = hasB l m := by rw [List.take_length]
  obtain ⟨n, hn⟩ : ∃ n, l.length = n := ⟨_, rfl⟩
  rw [hn] at hl P HY HN hend ⊢
  have HE := Lib.hid hend; clear hend hn
  go_enter Tryz.func200, Tryz.ntmps200
  go_wp2_with fail
  go_loopw [8] (fun i wr => ∃ k : Nat, k ≤ n ∧ i = .int .i64 k ∧ Hid (hasB (l.take k) m = false) ∧ Below w.heap.size w wr) (fun i _ => n - (intOf i).toNat)
  case atStart => exact ⟨0, by omega, rfl, by show _ = _; simp [hasB], Below.refl _ _⟩
  case round =>
    obtain ⟨k, hk, rfl, HA, hB⟩ := hrel
    by_cases hlt : k < n
    · obtain ⟨g1, rfl, _, hg1, hc1, _⟩ := P.out (by omega)
      obtain ⟨x0, x1⟩ := hc1 k hlt
      clear hc1
      have hyk := HY.out k hlt
      rw [HA.out, Bool.false_or] at hyk
      have hnk := HN.out k hlt
      have hcn := (hB.cell (p := ⟨bn, 0, none⟩) hb).trans hc
      have hbn := Nat.lt_of_lt_of_le hb hB.size
      have con := i_has1 m (l.getD k sp0) bn wr hcn hbn
      replace x0 := (hB.cell (p := ⟨g1, k * 2, none⟩) hg1).trans x0
      replace x1 := (hB.cell (p := ⟨g1, k * 2 + 1, none⟩) hg1).trans x1
      obtain ⟨b', hb'⟩ : ∃ b', inB m (l.getD k sp0).1 (l.getD k sp0).2 = b' := ⟨_, rfl⟩
      rw [hb'] at con hyk hnk
      clear hb'
      obtain ⟨s, hs⟩ : ∃ s, l.getD k sp0 = s := ⟨_, rfl⟩
      rw [hs] at x0 x1 con
      clear hs
      obtain ⟨x, y⟩ := s
      dsimp only at x0 x1 con
      have CON := Lib.hid con; clear con
      cases b'
      · have HR := Lib.hid hyk
        clear hnk hyk hcn hbn
        go_wp2_with fail
        refine CON.out.mono ?_
        rintro e w1 ⟨rfl, hb1⟩
        go_wp2_with fail
        go_roundw
        case rel => exact ⟨k + 1, by omega, by go_num, HR, hB.trans (hb1.mono hB.size)⟩
        case measure => simp [intOf]; omega
      · have HR := Lib.hid (hnk rfl)
        clear hnk hyk hcn hbn
        go_wp2_with fail
        refine CON.out.mono ?_
        rintro e w1 ⟨rfl, hb1⟩
        go_wp2_with fail
        go_ret
        exact ⟨k, rfl, .inr ⟨HR.out, by omega⟩, hB.trans (hb1.mono hB.size)⟩
    · obtain rfl : k = n := by omega
      go_wp2_with fail
      go_ret
      exact ⟨-1, rfl, .inl ⟨by rw [← HE.out]; exact HA.out, rfl⟩, hB⟩
theorem i_hcont {b : Nat} {v : Value} {l : List Sp} (m : Int) (bn : Nat) (w : World) (h : OwnP w b v l) (hc : w.cell? ⟨bn, 0, none⟩ = some (.int .i64 m)) (hb : bn < w.heap.size) :
    Calls Tryz.prog 151 #[v, .func (.func 152) #[] #[.pointer (some ⟨bn, 0, none⟩)]] w fun e w' => e = .returned (.bool (hasB l m)) ∧ Below w.heap.size w w' := by
  have CON := Lib.hid (i_hidx m bn w h hc hb)
  clear h
  go_enter Tryz.func151, Tryz.ntmps151
  go_wp2_with fail
  refine CON.out.mono ?_
  rintro e w1 ⟨r, rfl, hr, hb⟩
  rcases hr with ⟨h1, rfl⟩ | ⟨h1, h2⟩
  · have H1 := Lib.hid h1; clear h1
    go_wp2_with fail
    go_ret
    exact ⟨by rw [H1.out]; rfl, hb⟩
  · have H1 := Lib.hid h1; clear h1
    go_wp2_with fail
    go_ret
    exact ⟨by rw [H1.out]; rfl, hb⟩
theorem i_hasDay {b : Nat} {v : Value} {l : List Sp} (m : Int) (w : World) (h : OwnP w b v l) : Calls Tryz.prog 92 #[v, .int .i64 m] w fun e w' => e = .returned (.bool (hasB l m)) ∧ Below w.heap.size w w' := by
  have CON := Lib.hid (fun o => i_hcont m w.heap.size (w.alloc o) (h.alloc o))
  clear h
  go_enter Tryz.func92, Tryz.ntmps92
  go_wp2_with fail
  refine (CON.out _ (by simp) (by simp)).mono ?_
  rintro e w1 ⟨rfl, hb⟩
  go_wp2_with fail
  go_ret
  exact ⟨rfl, (below_alloc _ _).trans (hb.mono (by simp))⟩
theorem i_HasDay {b : Nat} {v : Value} {l : List Sp} (m : Int) (w : World) (h : OwnP w b v l) (hs : setP l) (hm : inB m 0 730499 = true) : Calls Tryz.prog 25 #[v, .int .i64 m] w fun e w' => e = .returned (.tuple #[.bool (hasB l m), .int .i64 0]) ∧ Below w.heap.size w w' := by
  have C1 := Lib.hid (i_IsSet w h hs)
  have C2 := Lib.hid (fun W hW => i_hasDay m W (OwnP.below h hW))
  clear h hs
  go_enter Tryz.func25, Tryz.ntmps25
  go_wp2_with fail
  refine C1.out.mono ?_
  rintro e w1 ⟨rfl, hb⟩
  go_wp2_with (go_at_call 91; refine (toB (i_day _ _) (by assumption)).mono ?_; rintro e w3 ⟨rfl, rfl⟩)
  refine (C2.out _ hb).mono ?_
  rintro e w3 ⟨rfl, hb2⟩
  go_wp2_with fail
  go_ret2
  exact ⟨rfl, below_step hb hb2⟩
end Go.Proofs.YtmpgokijlikddaaGreatDoor
/- Lists of reigns: what the law asks, plainly. No condition. -/
namespace Go.Proofs.YtmpgokijlikddaaGreatDoor
open Go.RowKit
/-- a list of reigns in block g -/
structure Lst (w : World) (g : Nat) (rs : List RG) : Prop where
  row : RowR w g rs.length rs
  lt : g < w.heap.size
theorem Lst.below {w w' : World} {g : Nat} {rs : List RG} (h : Lst w g rs) (hb : Below w.heap.size w w') : Lst w' g rs := ⟨h.row.below hb h.lt, Nat.lt_of_lt_of_le h.lt hb.size⟩
theorem OwnR.lst {w : World} {b : Nat} {v : Value} {l : List RG} (h : OwnR w b v l) (hv : v ≠ .slice none 0 0) : ∃ g c, v = .slice (some ⟨g, 0, none⟩) l.length c ∧ Lst w g l := by
  obtain ⟨g, c, e, _, hlt, hR⟩ := h.row hv
  exact ⟨g, c, e, hR, hlt⟩
theorem onF_len (rs : List RG) (m : Int) : (onF rs m).1.length ≤ rs.length := by
  unfold onF
  split
  · split
    · exact onK_len rs m rs.length
    · simp
  · simp
theorem on_law {rs : List RG} {m : Int} {l : List Int} {T : Int} (h : onF rs m = (l, T)) : T = 0 → areB rs = true ∧ inB m 0 730499 = true ∧ l = onK rs m rs.length := by
  rintro rfl
  unfold onF at h
  cases h1 : areB rs with
  | false => rw [h1] at h; simp at h
  | true =>
    cases h2 : inB m 0 730499 with
    | false => rw [h1, h2] at h; simp at h
    | true =>
      rw [h1, h2] at h
      injection h with h3 _
      exact ⟨rfl, rfl, h3.symm⟩
theorem tx_law {rs : List RG} {m : Int} {l : List Int} {T F : Int} {t : List UInt8} (h : onF rs m = (l, T)) (h2 : txF rs m = (t, F)) : T = 0 → (l = [] ∧ t = [45]) ∨ (l ≠ [] ∧ t ≠ [45]) := by
  intro hT
  obtain ⟨a, b, rfl⟩ := on_law h hT
  have k := tx_dash a b
  rw [h2] at k
  dsimp only at k
  by_cases hn : onK rs m rs.length = []
  · exact .inl ⟨hn, k.2 hn⟩
  · exact .inr ⟨hn, fun e => hn (k.1 e)⟩
theorem dd_law {rs : List RG} {m : Int} {l : List Int} {T E : Int} {D : List Sp} (h : onF rs m = (l, T)) (hd : ddF rs = (D, E)) : T = 0 → E = 0 ∧ setP D ∧ hasB D m = decide (1 < l.length) ∧ inB m 0 730499 = true := by
  intro hT
  obtain ⟨a, b, rfl⟩ := on_law h hT
  unfold ddF at hd
  rw [if_pos a] at hd
  injection hd with h1 h2
  have hn := uni_ok (l := dis (spn rs) rs.length) (fun s hs => (dis_ok a s hs).2)
  have hlen := dis_uni_len a
  have hdis := dis_on a m
  rw [h1] at hn hlen hdis
  have key : ∀ n, cov D n → 0 ≤ n ∧ n ≤ 730499 := fun n hc => by
    obtain ⟨j, k, hj, hk, p, q⟩ := dis_cov.1 ((hn.2 n).1 hc)
    obtain ⟨⟨c, d⟩, _⟩ := spn_ok a _ (getD_mem (l := spn rs) (j := j) (by rw [spn_len]; exact hj))
    omega
  refine ⟨h2.symm, ⟨hn.1, by omega, fun s hs => ?_⟩, ?_, b⟩
  · have hle := norm_le hn.1 s hs
    have k1 := key s.1 ⟨s, hs, Int.le_refl _, hle⟩
    have k2 := key s.2 ⟨s, hs, hle, Int.le_refl _⟩
    exact ⟨k1.1, hle, k2.2⟩
  · rw [Bool.eq_iff_iff, hasB_cov, hdis, decide_eq_true_iff]
    exact Iff.rfl
theorem vd_law {rs : List RG} {f t B : Int} {v : List Sp} (h : vdF rs f t = (v, B)) : B = 0 → ∀ j, j < v.length → f ≤ (v.getD j sp0).1 ∧ (v.getD j sp0).2 ≤ t ∧ onF rs (v.getD j sp0).1 = ([], 0) := by
  rintro rfl j hj
  unfold vdF at h
  split at h
  · rename_i ha
    split at h
    · rename_i hb
      injection h with h1 _
      obtain ⟨b1, b2, b3⟩ := hb
      have b1 := inB_iff.1 b1
      have b2 := inB_iff.1 b2
      have hm := getD_mem hj
      rw [← h1] at hm
      obtain ⟨k1, k2, k3, k4⟩ := void_on ha hm
      rw [h1] at k1 k2 k3 k4
      refine ⟨k1, k3, ?_⟩
      unfold onF
      rw [if_pos ha, if_pos (inB_iff.2 ⟨by omega, by omega⟩), k4]
    · simp at h
  · simp at h
end Go.Proofs.YtmpgokijlikddaaGreatDoor
