/- The spans of all days of a range with an indiction, found day by day. Condition: a range of days. -/
import Derived.Test.YtnoeakhhokbikaaPRow
import Derived.Test.YtnoeakhhokbikaaIndP
import Derived.Test.YtnoeakhhokbikaaIndOn
import Derived.Deep.RegionHeld3
import Derived.IntWalk
namespace Go.Proofs.Ytnoeakhhokbikaa
open Go.RowKit
theorem rnorm_lo : ∀ {r : List Sp}, rnorm r → ∀ t ∈ r, t.1 ≤ t.2
  | [], _, _, ht => absurd ht List.not_mem_nil
  | u :: r, hr, t, ht => by
    rcases List.mem_cons.1 ht with rfl | ht
    · exact hr.1
    · exact rnorm_lo hr.2.2 t ht
theorem dfor_len (p : Int → Bool) (a : Int) : ∀ n : Nat, (dfor p a n).length ≤ n
  | 0 => Nat.le_refl _
  | n + 1 => by
    have h := dfor_len p a n
    have := mst_len (dfor p a n) (a + n, a + n)
    unfold dfor
    split
    · omega
    · omega
/-- one day more, told by the last span -/
theorem dfor_top (p : Int → Bool) (a : Int) (n : Nat) {t : Sp} {r : List Sp} (h : dfor p a n = t :: r) : a ≤ t.1 ∧ t.1 ≤ t.2 ∧ t.2 ≤ a + n - 1 ∧
    mst (t :: r) (a + n, a + n) = (if t.2 = a + n - 1 then (t.1, a + (n : Int)) :: r else (a + (n : Int), a + (n : Int)) :: t :: r) := by
  obtain ⟨h1, h2, h3⟩ := dfor_ok p a n
  rw [h] at h1 h2 h3
  have e0 := rnorm_lo h1 t (List.mem_cons_self ..)
  have e1 := h2 t (List.mem_cons_self ..)
  have e2 := (h3 t.1).1 ⟨t, List.mem_cons_self .., Int.le_refl _, e0⟩
  refine ⟨e2.1, e0, by omega, ?_⟩
  by_cases hc : t.2 = a + n - 1
  · rw [if_pos hc, mst_yes (show (a + (n : Int), a + (n : Int)).1 ≤ t.2 + 1 by show a + (n : Int) ≤ t.2 + 1; omega)]
    show (t.1, max t.2 (a + n)) :: r = _
    rw [show max t.2 (a + (n : Int)) = a + n from by omega]
  · rw [if_neg hc, mst_no (by show ¬ a + (n : Int) ≤ t.2 + 1; omega)]
set_option maxRecDepth 100000 in
set_option maxHeartbeats 2000000 in
theorem i_daysFor (p : Int → Bool) (q4 q5 : Value) (a b : Int) (w : World) (h0 : 0 ≤ a) (hab : a ≤ b) (h1 : b ≤ 730499)
    (hc : ∀ (m : Int) (W : World), Below w.heap.size w W → a ≤ m → m ≤ b → Calls Try.prog 31 #[.int .i64 m, q4, q5] W fun e w' => e = .returned (.bool (p m)) ∧ Below W.heap.size W w') :
    Calls Try.prog 30 #[.int .i64 a, .int .i64 b, .func (.func 31) #[] #[q4, q5]] w fun e w' => ∃ v, e = .returned v ∧ OwnP w' w.heap.size v (dfor p a (b - a + 1).toNat).reverse ∧ Below w.heap.size w w' := by
  have HC := Lib.hid hc; clear hc
  go_enter Try.func30, Try.ntmps30
  go_wp2_with fail
  go_loopw [7, 8] (fun o i wr => ∃ j : Nat, a + j ≤ b + 1 ∧ i = .int .i64 (a + j) ∧ OwnP wr w.heap.size o (dfor p a j).reverse ∧ Below w.heap.size w wr) (fun _ i _ => (b + 1 - intOf i).toNat)
  case atStart => exact ⟨0, by omega, by simp, OwnP.lit0 w, below_alloc _ _⟩
  case round =>
    obtain ⟨j, hj, rfl, V, L⟩ := hrel
    have hL := L.size
    by_cases hlt : a + j ≤ b
    · have con := fun W h => HC.out (a + j) W h (by omega) hlt
      have hd : dfor p a (j + 1) = if p (a + j) then mst (dfor p a j) (a + j, a + j) else dfor p a j := rfl
      obtain ⟨bv, hb⟩ : ∃ x, p (a + j) = x := ⟨_, rfl⟩
      rw [hb] at con hd
      clear hb
      have hcast : a + ((j + 1 : Nat) : Int) = a + j + 1 := by omega
      have HCAST := Lib.hid hcast
      clear hcast
      cases bv with
      | false =>
        rw [if_neg (by simp)] at hd
        have HD := Lib.hid hd; clear hd
        go_wp2_with fail
        refine (con _ L).mono ?_
        rintro e w1 ⟨rfl, hb1⟩
        replace V := V.below hb1
        replace L := L.trans (hb1.mono hL)
        clear hb1 con
        go_wp2_with fail
        go_roundw
        case rel => exact ⟨j + 1, by omega, by rw [HCAST.out], by rw [HD.out]; exact V, L⟩
        case measure => simp [intOf]; omega
      | true =>
        rw [if_pos rfl] at hd
        have hlen := dfor_len p a j
        have htop := fun t r => dfor_top p a j (t := t) (r := r)
        obtain ⟨D, hD⟩ : ∃ D, dfor p a j = D := ⟨_, rfl⟩
        rw [hD] at V hd hlen htop
        clear hD
        cases D with
        | nil =>
          have HD := Lib.hid hd; clear hd htop
          obtain ⟨_, A, c, rfl, _⟩ := V.opened
          have hn0 : ([] : List Sp).reverse.length = 0 := rfl
          rw [hn0] at V ⊢
          go_wp2_with fail
          refine (con _ L).mono ?_
          rintro e w1 ⟨rfl, hb1⟩
          replace V := V.below hb1
          replace L := L.trans (hb1.mono hL)
          have hw1 := L.size
          clear hb1 con
          go_wp2_with (at_builtin; refine wpList_appP rfl _ _ rfl _ _ _ _ _ _ rfl V _ rfl rfl (by simp) (by omega) ?_; intro v' w2 hown2 hg2)
          go_roundw
          case rel => exact ⟨j + 1, by omega, by rw [HCAST.out], by rw [HD.out]; exact hown2, V.below_grown L hg2 (by omega)⟩
          case measure => simp [intOf]; omega
        | cons t r =>
          obtain ⟨t0, t1, t2, hm⟩ := htop t r rfl
          rw [hm] at hd
          clear htop hm
          have hr1 : (t :: r).reverse.length = r.length + 1 := by simp
          obtain ⟨_, A, c, rfl, P⟩ := V.opened
          rw [hr1] at V P ⊢
          obtain ⟨g, rfl, hg0, hg1, hcs, hfr⟩ := P (by omega)
          obtain ⟨_, c1⟩ := hcs r.length (by omega)
          rw [last_get] at c1
          have hf := hfr (r.length * 2 + 1)
          clear hcs hfr P
          simp only [List.length_cons] at hlen
          have hsub : IntKind.i64.wrap (((r.length + 1 : Nat) : Int) - 1) = (r.length : Int) := by rw [IntWalk.i64_in _ (by omega)]; omega
          by_cases hc : t.2 = a + j - 1
          · rw [if_pos hc] at hd
            have HD := Lib.hid hd; clear hd
            rw [hc] at c1
            clear hc t1 t2
            go_wp2_with fail
            refine (con _ L).mono ?_
            rintro e w1 ⟨rfl, hb1⟩
            replace V := V.below hb1
            replace c1 := (hb1.cell (p := ⟨g, r.length * 2 + 1, none⟩) hg1).trans c1
            replace hf := (hb1.frozen (p := ⟨g, r.length * 2 + 1, none⟩) hg1).trans hf
            replace L := L.trans (hb1.mono hL)
            have hset := V.set1 hr1.symm r.length (by omega) (a + j)
            rw [last_get, last_set] at hset
            obtain ⟨V2, hg2⟩ := hset
            have L2 := V.below_grown L hg2 (by have := hb1.size; omega)
            clear hb1 con V
            go_wp2_with fail
            go_roundw
            case rel => exact ⟨j + 1, by omega, by rw [HCAST.out], by rw [HD.out]; exact V2, L2⟩
            case measure => simp [intOf]; omega
          · rw [if_neg hc] at hd
            have HD := Lib.hid hd; clear hd
            obtain ⟨z, hz⟩ : ∃ z, t.2 = z := ⟨_, rfl⟩
            rw [hz] at c1 hc t1 t2
            clear hz
            go_wp2_with fail
            refine (con _ L).mono ?_
            rintro e w1 ⟨rfl, hb1⟩
            replace V := V.below hb1
            replace c1 := (hb1.cell (p := ⟨g, r.length * 2 + 1, none⟩) hg1).trans c1
            replace L := L.trans (hb1.mono hL)
            have hw1 := L.size
            clear hb1 con
            go_wp2_with (at_builtin; refine wpList_appP rfl _ _ rfl _ _ _ _ _ _ rfl V _ rfl rfl (by simp; omega) (by omega) ?_; intro v' w2 hown2 hg2)
            go_roundw
            case rel => exact ⟨j + 1, by omega, by rw [HCAST.out], by rw [HD.out, List.reverse_cons]; exact hown2, V.below_grown L hg2 (by omega)⟩
            case measure => simp [intOf]; omega
    · have hj2 : a + (j : Int) = b + 1 := by omega
      obtain rfl : j = (b - a + 1).toNat := by omega
      go_wp2_with fail
      go_ret
      exact ⟨_, rfl, V, L⟩
theorem indOn_iyr (k n : Int) : indOn k n = indY' (iyr k n) := by
  unfold indOn iyr indY' indY iday
  by_cases h : k ≠ 2 ∧ num (yr n) 9 (if k = 1 then 24 else 1) ≤ n
  · rw [if_pos h, if_pos h]
  · rw [if_neg h, if_neg h]
theorem below_undrew' {a w : World} (h : Below a.drew.heap.size a.drew w) : Below a.heap.size a w := ⟨h.os, h.tape, h.output, h.size, h.block⟩
/-- the days of a range with an indiction; too many are an error -/
def idF (k i a b : Int) : List Sp × Int := if inB k 0 2 && inB i 1 15 && inB a 0 730499 && inB b 0 730499 && decide (a ≤ b) && decide (b - a ≤ 40000) then (indSet k i a b, 0) else ([], 2)
theorem indSet_small (k i a b : Int) (h : b - a ≤ 40000) : (indSet k i a b).length ≤ 120 := by
  have h1 := indSet_len k i a b
  have e1 : yr b ≤ yr a + 110 := by unfold yr; omega
  omega
set_option maxRecDepth 100000 in
theorem i_days1 (k i n : Int) (bk bi : Nat) (w : World) (hk : inB k 0 2 = true) (h0 : 0 ≤ n) (h1 : n ≤ 730499) (c0 : w.cell? ⟨bk, 0, none⟩ = some (.int .i64 k)) (c1 : w.cell? ⟨bi, 0, none⟩ = some (.int .i64 i)) (l0 : bk < w.heap.size) (l1 : bi < w.heap.size) :
    Calls Try.prog 31 #[.int .i64 n, .pointer (some ⟨bk, 0, none⟩), .pointer (some ⟨bi, 0, none⟩)] w fun e w' => e = .returned (.bool (decide (indY' (iyr k n) = i))) ∧ Below w.heap.size w w' := by
  have con := i_on k n w.drew hk h0 h1
  rw [indOn_iyr] at con
  obtain ⟨x, hx⟩ : ∃ x, indY' (iyr k n) = x := ⟨_, rfl⟩
  rw [hx] at con ⊢
  have CON := Lib.hid con; clear con hx hk
  go_enter Try.func31, Try.ntmps31
  go_wp2_with fail
  go_region_held3 (fun W => W.cell? ⟨bk, 0, none⟩ = some (.int .i64 k) ∧ W.cell? ⟨bi, 0, none⟩ = some (.int .i64 i))
    (first | go_keep | exact ⟨c0, c1⟩ | exact ⟨d0, d1⟩)
    (first | (go_at_call 32; refine CON.out.mono ?_; rintro e w3 ⟨rfl, hb3⟩; have hb3' := below_undrew' hb3; have d0 := (hb3'.cell (p := ⟨bk, 0, none⟩) l0).trans c0; have d1 := (hb3'.cell (p := ⟨bi, 0, none⟩) l1).trans c1))
  go_wp2_with fail
  go_ret
  exact ⟨rfl, hb3'⟩
theorem i_limited {b : Nat} {v : Value} {l : List Sp} (w : World) (h : OwnP w b v l) (hl : l.length ≤ 300) : Calls Try.prog 29 #[v] w fun e w' => e = .returned (.tuple #[v, .int .i64 0]) ∧ w = w' := by
  obtain ⟨_, A, c, rfl, _⟩ := h.opened
  clear h
  obtain ⟨n, hn⟩ : ∃ n, l.length = n := ⟨_, rfl⟩
  rw [hn] at hl ⊢
  clear hn
  go_enter Try.func29, Try.ntmps29
  go_wp2_with fail
  go_ret2
  exact ⟨rfl, rfl⟩
end Go.Proofs.Ytnoeakhhokbikaa
