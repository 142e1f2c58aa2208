/- Lists of spans told equal, marked and held. Conditions: how the slices lie; not too many spans. -/
import Derived.Test.YtoadkljaiegnlaaDoorPRow
import Derived.Test.YtoadkljaiegnlaaDoorStyle
import Derived.Deep.RegionHeld3
namespace Go.Proofs.YtoadkljaiegnlaaDoor
open Go.RowKit
theorem below_undrewP {a w : World} (h : Below a.drew.heap.size a.drew w) : Below a.heap.size a w := ⟨h.os, h.tape, h.output, h.size, h.block⟩
set_option maxRecDepth 100000 in
set_option maxHeartbeats 1000000 in
theorem eqP_same {b1 b2 : Nat} {v1 v2 : Value} {l : List Sp} (w : World) (h1 : OwnP w b1 v1 l) (h2 : OwnP w b2 v2 l) :
    Calls Tryd.prog 16 #[v1, v2] w fun e w' => e = .returned (.bool true) ∧ Below w.heap.size w w' := by
  obtain ⟨hl, A1, c1, rfl, p1⟩ := h1.opened
  obtain ⟨_, A2, c2, rfl, p2⟩ := h2.opened
  clear h1 h2
  obtain ⟨n, hn⟩ : ∃ n, l.length = n := ⟨_, rfl⟩
  rw [hn] at p1 p2 hl ⊢
  clear hn
  have P1 := Lib.hid p1; clear p1
  have P2 := Lib.hid p2; clear p2
  go_enter Tryd.func16, Tryd.ntmps16
  go_wp2_with fail
  go_loopw [5] (fun i wr => ∃ k : Nat, k ≤ n ∧ i = .int .i64 k ∧ Below w.heap.size w wr) (fun i _ => n - (intOf i).toNat)
  case atStart => exact ⟨0, by omega, rfl, Below.refl _ _⟩
  case round =>
    obtain ⟨k, hk, rfl, L⟩ := hrel
    by_cases hlt : k < n
    · obtain ⟨g1, rfl, _, hg1, hc1, _⟩ := P1.out (by omega)
      obtain ⟨g2, rfl, _, hg2, hc2, _⟩ := P2.out (by omega)
      obtain ⟨x0, x1⟩ := hc1 k hlt
      obtain ⟨y0, y1⟩ := hc2 k hlt
      clear hc1 hc2
      obtain ⟨s, hs⟩ : ∃ s, l.getD k sp0 = s := ⟨_, rfl⟩
      rw [hs] at x0 x1 y0 y1
      clear hs
      obtain ⟨x, y⟩ := s
      dsimp only at x0 x1 y0 y1
      have l1 := Nat.lt_of_lt_of_le hg1 L.size
      have l2 := Nat.lt_of_lt_of_le hg2 L.size
      replace x0 := (L.cell (p := ⟨g1, k * 2, none⟩) hg1).trans x0
      replace x1 := (L.cell (p := ⟨g1, k * 2 + 1, none⟩) hg1).trans x1
      replace y0 := (L.cell (p := ⟨g2, k * 2, none⟩) hg2).trans y0
      replace y1 := (L.cell (p := ⟨g2, k * 2 + 1, none⟩) hg2).trans y1
      go_wp2_with fail
      go_region_held3 (fun W => W.cell? ⟨g1, k * 2, none⟩ = some (.int .i64 x) ∧ W.cell? ⟨g1, k * 2 + 1, none⟩ = some (.int .i64 y) ∧ W.cell? ⟨g2, k * 2, none⟩ = some (.int .i64 x) ∧ W.cell? ⟨g2, k * 2 + 1, none⟩ = some (.int .i64 y))
        (first | go_keep | exact ⟨x0, x1, y0, y1⟩ | exact ⟨d0, d1, d2, d3⟩)
        (first | (go_at_call 47; refine (eqSpan_same x y _).mono ?_; rintro e w3 ⟨rfl, hb3⟩; have hb3' := below_undrewP hb3; have d0 := (hb3'.cell (p := ⟨g1, k * 2, none⟩) l1).trans x0; have d1 := (hb3'.cell (p := ⟨g1, k * 2 + 1, none⟩) l1).trans x1; have d2 := (hb3'.cell (p := ⟨g2, k * 2, none⟩) l2).trans y0; have d3 := (hb3'.cell (p := ⟨g2, k * 2 + 1, none⟩) l2).trans y1))
      go_wp2_with fail
      go_roundw
      case rel => exact ⟨k + 1, by omega, by go_num, below_step L hb3'⟩
      case measure => simp [intOf]; omega
    · go_wp2_with fail
      go_ret
      exact ⟨rfl, L⟩
/-- the marks (k, k + 1), (k + 2, k + 3), .. -/
def marksP (k : Int) : Nat → List Sp
  | 0 => []
  | n + 1 => (k, k + 1) :: marksP (k + 2) n
theorem marksP_len (n : Nat) : ∀ k : Int, (marksP k n).length = n := by
  induction n with
  | zero => intro k; rfl
  | succ n ih => intro k; simp [marksP, ih]
theorem marksP_get (n : Nat) : ∀ (k : Int) (j : Nat), j < n → (marksP k n).getD j sp0 = (k + 2 * j, k + 2 * j + 1) := by
  induction n with
  | zero => intro k j h; omega
  | succ n ih =>
    intro k j h
    cases j with
    | zero => simp [marksP]
    | succ j =>
      have := ih (k + 2) j (by omega)
      simp only [marksP, List.getD_cons_succ, this]
      congr 1 <;> omega
def mixP (l : List Sp) (k : Int) (j : Nat) : List Sp := marksP k j ++ l.drop j
theorem mixP_len (l : List Sp) (k : Int) (j : Nat) (h : j ≤ l.length) : (mixP l k j).length = l.length := by
  unfold mixP; rw [List.length_append, marksP_len, List.length_drop]; omega
theorem marksP_snoc (n : Nat) : ∀ k : Int, marksP k (n + 1) = marksP k n ++ [(k + 2 * n, k + 2 * n + 1)] := by
  induction n with
  | zero => intro k; simp [marksP]
  | succ n ih =>
    intro k
    have := ih (k + 2)
    rw [marksP, this, marksP, List.cons_append]
    have e : k + 2 + 2 * (n : Int) = k + 2 * ((n + 1 : Nat) : Int) := by omega
    rw [e]
theorem mixP_set (l : List Sp) (k : Int) (j : Nat) (h : j < l.length) : (mixP l k j).set j (k + 2 * j, k + 2 * j + 1) = mixP l k (j + 1) := by
  unfold mixP
  rw [List.set_append_right _ _ (by rw [marksP_len]; omega), marksP_len, Nat.sub_self, marksP_snoc, List.append_assoc, List.drop_eq_getElem_cons h]
  rfl
theorem mixP_0 (l : List Sp) (k : Int) : mixP l k 0 = l := by simp [mixP, marksP]
theorem mixP_all (l : List Sp) (k : Int) : mixP l k l.length = marksP k l.length := by simp [mixP]
theorem OwnP.row0 {w : World} {b n c : Nat} {A : Option Addr} {l : List Sp} (h : OwnP w b (.slice A n c) l) : n = l.length ∧ (l.length = 0 ∨ ∃ g, A = some ⟨g, 0, none⟩) := by
  obtain ⟨e, p⟩ := h.at_
  refine ⟨e, ?_⟩
  rcases Nat.eq_zero_or_pos l.length with h0 | h0
  · exact .inl h0
  · obtain ⟨g, hg, _⟩ := p h0
    exact .inr ⟨g, hg⟩
set_option maxRecDepth 100000 in
set_option maxHeartbeats 1000000 in
theorem markP {b : Nat} {v : Value} {l : List Sp} (k : Int) (w : World) (h : OwnP w b v l) (k0 : 0 ≤ k) (k1 : k + 2 * l.length ≤ 4611686018427387904) :
    Calls Tryd.prog 18 #[v, .int .i64 k] w fun e w' => e = .returned (.int .i64 (k + 2 * l.length)) ∧ OwnP w' b v (marksP k l.length) ∧ w.grownBy w' v.ownBlock := by
  obtain ⟨hl, A1, c1, rfl, _⟩ := h.opened
  have HA := Lib.hid h.row0.2
  have hfin := mixP_all l k
  have HSET := Lib.hid (fun j => mixP_set l k j)
  have HLEN := Lib.hid (fun j => mixP_len l k j)
  have h' : OwnP w b (.slice A1 l.length c1) (mixP l k 0) := by rw [mixP_0]; exact h
  clear h
  obtain ⟨n, hn⟩ : ∃ n, l.length = n := ⟨_, rfl⟩
  rw [hn] at hl h' HA hfin HSET HLEN k1 ⊢
  have HF := Lib.hid hfin
  clear hn hfin
  go_enter Tryd.func18, Tryd.ntmps18
  go_wp2_with fail
  go_loopw [1, 5] (fun q i wr => ∃ j : Nat, j ≤ n ∧ i = .int .i64 j ∧ q = .int .i64 (k + 2 * j) ∧ OwnP wr b (.slice A1 n c1) (mixP l k j) ∧ w.grownBy wr (Value.slice A1 n c1).ownBlock) (fun _ i _ => n - (intOf i).toNat)
  case atStart => exact ⟨0, by omega, rfl, by simp, h', World.grownBy.refl _ _⟩
  case round =>
    clear h'
    obtain ⟨j, hj, rfl, rfl, V, hgr⟩ := hrel
    by_cases hlt : j < n
    · obtain ⟨g, rfl⟩ : ∃ g, A1 = some ⟨g, 0, none⟩ := by
        rcases HA.out with h0 | h0
        · omega
        · exact h0
      have hlen := HLEN.out j hj
      have hset := HSET.out j hlt
      obtain ⟨S, hS⟩ : ∃ S, mixP l k j = S := ⟨_, rfl⟩
      rw [hS] at V hlen hset
      obtain ⟨_, _, hgl, hc, hf⟩ := V.atg (by omega)
      obtain ⟨a0, a1⟩ := hc j (by omega)
      have f0 := hf (j * 2)
      obtain ⟨V1, hq1⟩ := V.set0 hlen.symm j (by omega) (k + 2 * j)
      obtain ⟨_, _, hgl1, hc', hf'⟩ := V1.atg (by rw [List.length_set]; omega)
      obtain ⟨_, e1⟩ := hc' j (by rw [List.length_set]; omega)
      have f1 := hf' (j * 2 + 1)
      have hst := V.setAt hlen.symm j (by omega) (k + 2 * j) (k + 2 * j + 1)
      rw [hset] at hst
      have HST := Lib.hid hst
      have HGR := Lib.hid hgr
      clear hst hset hc hf hc' hf' V V1 hS hgr hq1 hgl1 hlen
      generalize ((S.set j (k + 2 * (j : Int), (S.getD j sp0).2)).getD j sp0).2 = z1 at e1
      generalize (S.getD j sp0).1 = z0 at a0
      generalize (S.getD j sp0).2 = z2 at a1
      go_wp2_with fail
      go_roundw
      case rel => exact ⟨j + 1, by omega, by go_num, by go_num, HST.out.1, grown_trans HGR.out HST.out.2⟩
      case measure => simp [intOf]; omega
    · obtain rfl : j = n := by omega
      go_wp2_with fail
      go_ret
      exact ⟨rfl, by rw [← HF.out]; exact V, hgr⟩
set_option maxRecDepth 100000 in
set_option maxHeartbeats 1000000 in
theorem heldP {b : Nat} {v : Value} {n : Nat} (k : Int) (w : World) (h : OwnP w b v (marksP k n)) (k0 : 0 ≤ k) (k1 : k + 2 * n ≤ 4611686018427387904) :
    Calls Tryd.prog 19 #[v, .int .i64 k] w fun e w' => e = .returned (.int .i64 (k + 2 * n)) ∧ w = w' := by
  obtain ⟨hl, A1, c1, rfl, p1⟩ := h.opened
  rw [marksP_len] at p1 hl ⊢
  have P1 := Lib.hid p1; clear p1
  clear h
  go_enter Tryd.func19, Tryd.ntmps19
  go_wp2_with fail
  go_loop [1, 5] (fun q i => ∃ j : Nat, j ≤ n ∧ i = .int .i64 j ∧ q = .int .i64 (k + 2 * j)) (fun _ i => n - (intOf i).toNat)
  case atStart => exact ⟨0, by omega, rfl, by simp⟩
  case round =>
    obtain ⟨j, hj, rfl, rfl⟩ := hrel
    by_cases hlt : j < n
    · obtain ⟨g1, rfl, _, _, hc1, _⟩ := P1.out (by omega)
      obtain ⟨c1, c2⟩ := hc1 j hlt
      rw [marksP_get n k j hlt] at c1 c2
      dsimp only at c1 c2
      clear hc1
      go_wp2_with fail
      go_round
      case rel => exact ⟨j + 1, by omega, by go_num, by go_num⟩
      case measure => simp [intOf]; omega
    · obtain rfl : j = n := by omega
      go_wp2_with fail
      go_ret
      exact ⟨rfl, rfl⟩
theorem below_grownP {a w w' : World} {b : Nat} {v : Value} {xs : List Sp} (h : Below a.heap.size a w) (hg : w.grownBy w' v.ownBlock) (hv : OwnP w b v xs) (hb : a.heap.size ≤ b) : Below a.heap.size a w' :=
  h.grown hg h.size fun k hk => Nat.le_trans hb (hv.lt k hk).1
end Go.Proofs.YtoadkljaiegnlaaDoor
