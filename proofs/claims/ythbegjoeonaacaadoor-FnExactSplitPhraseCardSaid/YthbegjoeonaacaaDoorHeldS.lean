/- Marks in a slice of texts: written and read again. Conditions: that the slice is the call's own. -/
import Derived.Test.YthbegjoeonaacaaDoorWrds
import Derived.Test.YthbegjoeonaacaaDoorBytes
import Derived.Deep.RegionHeld3
namespace Go.Proofs.YthbegjoeonaacaaDoor
open Go.RowKit
/-- the text of a number, from its last digit on -/
def mkD : Nat → Nat → List UInt8 → List UInt8
  | 0, _, o => o
  | f + 1, k, o => if k = 0 then o else mkD f (k / 10) ((48 + k % 10).toUInt8 :: o)
def mkT (k : Nat) : List UInt8 := 109 :: mkD 30 k []
theorem mkD_step {f k : Nat} {o : List UInt8} (h : 0 < k) : mkD (f + 1) k o = mkD f (k / 10) ((48 + k % 10).toUInt8 :: o) := by rw [mkD, if_neg (by omega)]
theorem mkD_zero (f : Nat) (o : List UInt8) : mkD f 0 o = o := by cases f <;> simp [mkD]
theorem dig_nat (j : Nat) : ((48 + j % 10).toUInt8.toNat : Int) = 48 + (j : Int) % 10 := by
  have h : (48 + j % 10).toUInt8.toNat = (48 + j % 10) % 256 := by simp [Nat.toUInt8]
  rw [h]; omega
/-- one byte, turned to a text -/
theorem conv_one (wr : World) (j : Nat) : (convert 90 9 (.slice (some ⟨wr.heap.size, 0, none⟩) 1 1)).run Tryd.prog (wr.alloc (.cells #[.int .u8 (48 + (j : Int) % 10)] 5)) = .ok (.string ⟨[(48 + j % 10).toUInt8].toArray⟩) (wr.alloc (.cells #[.int .u8 (48 + (j : Int) % 10)] 5)) := by
  refine run_convert_bytes_back _ 90 9 5 ⟨wr.heap.size, 0, none⟩ 1 [(48 + j % 10).toUInt8] Tryd.underlying90 Tryd.underlying5 Tryd.underlying9 fun i hi => ?_
  obtain rfl : i = 0 := by simpa using hi
  have e : (⟨wr.heap.size, 0, none⟩ : Addr).add 0 = ⟨wr.heap.size, 0, none⟩ := by simp [Addr.add]
  rw [e, (Blk.new wr _ _).c0, ← dig_nat j]; rfl
set_option maxRecDepth 100000 in
theorem l_markText (k : Nat) (w : World) (h0 : 0 < k) (h1 : k ≤ 10000000) : Calls Tryd.prog 57 #[.int .i64 k] w fun e w' => e = .returned (.string ⟨(mkT k).toArray⟩) ∧ Below w.heap.size w w' := by
  have hk0 : (0 : Int) < k := by omega
  go_enter Tryd.func57, Tryd.ntmps57
  go_wp2_with fail
  go_loopw [0, 3] (fun kk oo wr => ∃ (f j : Nat) (o : List UInt8), kk = .int .i64 j ∧ oo = .string ⟨o.toArray⟩ ∧ j ≤ 10000000 ∧ j < 10 ^ f ∧ f ≤ 30 ∧ o.length + f ≤ 30 ∧ Hid (mkD f j o = mkD 30 k []) ∧ Below w.heap.size w wr) (fun kk _ _ => (intOf kk).toNat)
  case atStart => exact ⟨30, k, [], rfl, rfl, h1, Nat.lt_of_le_of_lt h1 (by decide), by omega, by simp, Lib.hid rfl, Below.refl _ _⟩
  case round =>
    obtain ⟨f, j, o, rfl, rfl, hjm, hj, hf, ho, HD, hB⟩ := hrel
    cases f with
    | zero =>
      have hj0 : j = 0 := by simpa using hj
      subst hj0
      have hE := HD.out
      rw [mkD_zero] at hE
      have HE := Lib.hid hE
      have hcat : (⟨#[109]⟩ : ByteArray) ++ ⟨o.toArray⟩ = ⟨(mkT k).toArray⟩ := by
        unfold mkT; rw [← hE, ByteArray.mk_append_mk]; simp
      have HC := Lib.hid hcat
      have hlen : ¬ 9223372036854775807 < 1 + o.length := by omega
      clear hE hcat HD hj
      go_wp2_with fail
      go_ret
      exact ⟨by rw [← HC.out]; rfl, hB⟩
    | succ f =>
      by_cases h0 : j = 0
      · subst h0
        have hE := HD.out
        rw [mkD_zero] at hE
        have hcat : (⟨#[109]⟩ : ByteArray) ++ ⟨o.toArray⟩ = ⟨(mkT k).toArray⟩ := by
          unfold mkT; rw [← hE, ByteArray.mk_append_mk]; simp
        have HC := Lib.hid hcat
        have hlen : ¬ 9223372036854775807 < 1 + o.length := by omega
        clear hE hcat HD hj
        go_wp2_with fail
        go_ret
        exact ⟨by rw [← HC.out]; rfl, hB⟩
      · have hj0 : (0 : Int) < j := by omega
        have hj1 : j / 10 < 10 ^ f := by rw [Nat.pow_succ] at hj; omega
        have hD := HD.out
        rw [mkD_step (by omega)] at hD
        have HD' := Lib.hid hD
        have kc := conv_one wr j
        have hdig : IntKind.u8.wrap (48 + (j : Int) % 10) = 48 + (j : Int) % 10 := by rw [IntKind.wrap_u8]; omega
        have hlen : ¬ 9223372036854775807 < 1 + o.length := by omega
        clear hD HD hj
        go_wp2_with fail
        go_roundw
        case rel => exact ⟨f, j / 10, (48 + j % 10).toUInt8 :: o, by go_num, by rw [ByteArray.mk_append_mk]; simp, by omega, hj1, by omega, by simp; omega, HD', below_more hB hB.size _⟩
        case measure => simp [intOf]; omega
def mks (n : Nat) : List (List UInt8) := (List.range n).map fun i => mkT (i + 1)
theorem mks_length (n : Nat) : (mks n).length = n := by simp [mks]
theorem mks_snoc (n : Nat) : mks (n + 1) = mks n ++ [mkT (n + 1)] := by simp [mks, List.range_succ]
theorem mks_get (n j : Nat) (h : j < n) : (mks n).getD j [] = mkT (j + 1) := by simp [mks, List.getD, h]
theorem mks_set (xs : List (List UInt8)) (j : Nat) (h : j < xs.length) : (mks j ++ xs.drop j).set j (mkT (j + 1)) = mks (j + 1) ++ xs.drop (j + 1) := by
  rw [List.set_append_right _ _ (by rw [mks_length]; exact Nat.le_refl _), mks_length, Nat.sub_self, List.drop_eq_getElem_cons h, List.set_cons_zero, mks_snoc, List.append_assoc]
  rfl
theorem OwnS.stored {w : World} {b g c n : Nat} {xs : List (List UInt8)} (h : w.ownsRow b 9 1 (.slice (some ⟨g, 0, none⟩) n c) n (xs.map sv)) (j : Nat) (u : List UInt8) :
    (w.setCell ⟨g, j, none⟩ (sv u)).ownsRow b 9 1 (.slice (some ⟨g, 0, none⟩) n c) n ((xs.set j u).map sv) ∧ w.grownBy (w.setCell ⟨g, j, none⟩ (sv u)) (some g) := by
  have := World.ownsRow.stored h j (sv u)
  rwa [← List.map_set] at this
set_option maxRecDepth 100000 in
set_option maxHeartbeats 400000 in
theorem markS {b : Nat} {v : Value} {xs : List (List UInt8)} (w : World) (h : OwnS w b v xs) (k1 : xs.length ≤ 1048577) :
    Calls Tryd.prog 21 #[v, .int .i64 1] w fun e w' => e = .returned (.int .i64 (1 + xs.length)) ∧ OwnS w' b v (mks xs.length) ∧ w.grownBy w' v.ownBlock := by
  obtain ⟨hl, A1, c1, rfl, p1⟩ := h.opened
  have hA : xs.length = 0 ∨ ∃ g, A1 = some ⟨g, 0, none⟩ := by
    rcases Nat.eq_zero_or_pos xs.length with h0 | h0
    · exact .inl h0
    · obtain ⟨g, hg, _⟩ := p1 h0
      exact .inr ⟨g, hg⟩
  clear p1
  have HA := Lib.hid hA; clear hA
  have h' : w.ownsRow b 9 1 (.slice A1 xs.length c1) xs.length ((mks 0 ++ xs.drop 0).map sv) := by unfold OwnS at h; simpa [mks] using h
  have hfin : ∀ W : World, W.ownsRow b 9 1 (.slice A1 xs.length c1) xs.length ((mks xs.length ++ xs.drop xs.length).map sv) → OwnS W b (.slice A1 xs.length c1) (mks xs.length) := by
    intro W hW
    unfold OwnS
    rw [mks_length]
    simpa using hW
  have HF := Lib.hid hfin; clear hfin
  have hset := mks_set xs
  have HS := Lib.hid hset; clear hset
  clear h
  obtain ⟨n, hn⟩ : ∃ n, xs.length = n := ⟨_, rfl⟩
  rw [hn] at hl h' HA HF HS k1 ⊢
  clear hn
  go_enter Tryd.func21, Tryd.ntmps21
  go_wp2
  go_loopw [1, 5] (fun q i wr => ∃ j : Nat, j ≤ n ∧ i = .int .i64 j ∧ q = .int .i64 (1 + j) ∧ wr.ownsRow b 9 1 (.slice A1 n c1) n ((mks j ++ xs.drop j).map sv) ∧ w.grownBy wr (Value.slice A1 n c1).ownBlock) (fun _ i _ => n - (intOf i).toNat)
  case atStart => exact ⟨0, by omega, rfl, by simp, h', World.grownBy.refl _ _⟩
  case round =>
    obtain ⟨j, hj, rfl, rfl, hown, hgr⟩ := hrel
    by_cases hlt : j < n
    · obtain ⟨g, rfl⟩ : ∃ g, A1 = some ⟨g, 0, none⟩ := by
        rcases HA.out with h0 | h0
        · omega
        · exact h0
      have hlen : ((mks j ++ xs.drop j).map sv).length = n * 1 := hown.1
      have con := fun W => l_markText (j + 1) W (by omega) (by omega)
      have ecast : (((j + 1 : Nat)) : Int) = 1 + (j : Int) := by omega
      rw [ecast] at con
      have CON := Lib.hid con
      have HOW := Lib.hid hown
      clear con ecast hown
      go_wp2_with fail
      refine (CON.out _).mono ?_
      rintro e w2 ⟨rfl, hb2⟩
      have hown2 := World.ownsRow.kept HOW.out (grownB hb2 none) (by simp [Value.ownBlock])
      have hgr2 := grownT hgr (grownB hb2 _)
      have hcell := World.ownsRow.cellAt hown2 j (by omega)
      have hfr := World.ownsRow.frozenAt hown2 j
      have hst := OwnS.stored hown2 j (mkT (j + 1))
      rw [HS.out j (by omega)] at hst
      have hx : ∃ x, ((mks j ++ xs.drop j).map sv)[j]? = some x := ⟨_, List.getElem?_eq_getElem (by omega)⟩
      obtain ⟨x, hx⟩ := hx
      rw [hx] at hcell
      clear hx
      have HST := Lib.hid hst; clear hst hown2
      go_wp2_with fail
      go_roundw
      case rel => exact ⟨j + 1, by omega, by go_num, by go_num, HST.out.1, grownT hgr2 HST.out.2⟩
      case measure => simp [intOf]; omega
    · obtain rfl : j = n := by omega
      go_wp2
      go_ret
      exact ⟨rfl, HF.out _ hown, hgr⟩
theorem own_neS {w1 w2 : World} {b1 b2 : Nat} {v1 v2 : Value} {x1 x2 : List (List UInt8)} (h1 : OwnS w1 b1 v1 x1) (h2 : OwnS w2 b2 v2 x2) (hb : w1.heap.size ≤ b2) : v1.ownBlock = none ∨ v1.ownBlock ≠ v2.ownBlock := by
  cases e1 : v1.ownBlock with
  | none => exact .inl rfl
  | some k =>
    refine .inr fun e => ?_
    have l1 := (h1.lt k e1).2
    have l2 := (h2.lt k e.symm).1
    omega
set_option maxRecDepth 100000 in
set_option maxHeartbeats 400000 in
theorem heldS {b : Nat} {v : Value} {n : Nat} (w : World) (h : OwnS w b v (mks n)) (k1 : n ≤ 1048577) :
    Calls Tryd.prog 22 #[v, .int .i64 1] w fun e w' => e = .returned (.int .i64 (1 + n)) ∧ Below w.heap.size w w' := by
  obtain ⟨hl, A1, c1, rfl, p1⟩ := h.opened
  rw [mks_length] at hl p1 ⊢
  have P1 := Lib.hid p1; clear p1 h
  go_enter Tryd.func22, Tryd.ntmps22
  go_wp2
  go_loopw [1, 5] (fun q i wr => ∃ j : Nat, j ≤ n ∧ i = .int .i64 j ∧ q = .int .i64 (1 + j) ∧ Below w.heap.size w wr) (fun _ i _ => n - (intOf i).toNat)
  case atStart => exact ⟨0, by omega, rfl, by simp, Below.refl _ _⟩
  case round =>
    obtain ⟨j, hj, rfl, rfl, hB⟩ := hrel
    by_cases hlt : j < n
    · obtain ⟨g1, rfl, _, hg1, hc1, _⟩ := P1.out (by omega)
      have d1 := hc1 j hlt
      rw [mks_get n j hlt] at d1
      clear hc1
      have con := fun W => l_markText (j + 1) W (by omega) (by omega)
      have ecast : (((j + 1 : Nat)) : Int) = 1 + (j : Int) := by omega
      rw [ecast] at con
      obtain ⟨t, ht⟩ : ∃ t, mkT (j + 1) = t := ⟨_, rfl⟩
      rw [ht] at con d1
      have CON := Lib.hid con
      clear con ecast ht
      have d2 : wr.cell? ⟨g1, j, none⟩ = some (.string ⟨t.toArray⟩) := (hB.cell (p := ⟨g1, j, none⟩) hg1).trans d1
      have hgw : g1 < wr.heap.size := Nat.lt_of_lt_of_le hg1 hB.size
      go_wp2_with fail
      go_region_held3 (fun W => W.cell? ⟨g1, j, none⟩ = some (.string ⟨t.toArray⟩))
        (first | go_keep | exact d3)
        (first | (go_at_call 57; refine (CON.out _).mono ?_; rintro e w3 ⟨rfl, hb3⟩; have d3 := (hb3.cell (p := ⟨g1, j, none⟩) (by show g1 < _; exact hgw)).trans d2; have hL := hB.trans (Below.mono (B := wr.heap.size) ⟨hb3.os, hb3.tape, hb3.output, hb3.size, hb3.block⟩ hB.size)))
      go_wp2_with fail
      go_roundw
      case rel => exact ⟨j + 1, by omega, by go_num, by go_num, hL⟩
      case measure => simp [intOf]; omega
    · obtain rfl : j = n := by omega
      go_wp2
      go_ret
      exact ⟨rfl, hB⟩
end Go.Proofs.YthbegjoeonaacaaDoor
