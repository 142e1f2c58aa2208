/- Marks in a slice of texts: written and read again. Conditions: that the slice is the call's own. -/
import Derived.Test.YtoadkljaiegnlaaDoorWrds
import Derived.Test.YtoadkljaiegnlaaDoorBytes
import Derived.Deep.RegionHeld3
namespace Go.Proofs.YtoadkljaiegnlaaDoor
open Go.RowKit
/-- the text of a number, from its last digit on -/
def mkD : Nat → Nat → List UInt8 → List UInt8
  | 0, _, o => o
  | f + 1, k, o => if k = 0 then o else mkD f (k / 10) ((48 + k % 10).toUInt8 :: o)
def mkT (k : Nat) : List UInt8 := 109 :: mkD 30 k []
theorem mkD_step {f k : Nat} {o : List UInt8} (h : 0 < k) : mkD (f + 1) k o = mkD f (k / 10) ((48 + k % 10).toUInt8 :: o) := by rw [mkD, if_neg (by omega)]
theorem mkD_zero (f : Nat) (o : List UInt8) : mkD f 0 o = o := by cases f <;> simp [mkD]
theorem dig_nat (j : Nat) : ((48 + j % 10).toUInt8.toNat : Int) = 48 + (j : Int) % 10 := by
  have h : (48 + j % 10).toUInt8.toNat = (48 + j % 10) % 256 := by simp [Nat.toUInt8]
  rw [h]; omega
/-- one byte, turned to a text -/
theorem conv_one (wr : World) (j : Nat) : (convert 75 9 (.slice (some ⟨wr.heap.size, 0, none⟩) 1 1)).run Tryd.prog (wr.alloc (.cells #[.int .u8 (48 + (j : Int) % 10)] 5)) = .ok (.string ⟨[(48 + j % 10).toUInt8].toArray⟩) (wr.alloc (.cells #[.int .u8 (48 + (j : Int) % 10)] 5)) := by
  refine run_convert_bytes_back _ 75 9 5 ⟨wr.heap.size, 0, none⟩ 1 [(48 + j % 10).toUInt8] Tryd.underlying75 Tryd.underlying5 Tryd.underlying9 fun i hi => ?_
  obtain rfl : i = 0 := by simpa using hi
  have e : (⟨wr.heap.size, 0, none⟩ : Addr).add 0 = ⟨wr.heap.size, 0, none⟩ := by simp [Addr.add]
  rw [e, (Blk.new wr _ _).c0, ← dig_nat j]; rfl
set_option maxRecDepth 100000 in
theorem l_markText (k : Nat) (w : World) (h0 : 0 < k) (h1 : k ≤ 10000000) : Calls Tryd.prog 48 #[.int .i64 k] w fun e w' => e = .returned (.string ⟨(mkT k).toArray⟩) ∧ Below w.heap.size w w' := by
  have hk0 : (0 : Int) < k := by omega
  go_enter Tryd.func48, Tryd.ntmps48
  go_wp2_with fail
  go_loopw [0, 3] (fun kk oo wr => ∃ (f j : Nat) (o : List UInt8), kk = .int .i64 j ∧ oo = .string ⟨o.toArray⟩ ∧ j ≤ 10000000 ∧ j < 10 ^ f ∧ f ≤ 30 ∧ o.length + f ≤ 30 ∧ Hid (mkD f j o = mkD 30 k []) ∧ Below w.heap.size w wr) (fun kk _ _ => (intOf kk).toNat)
  case atStart => exact ⟨30, k, [], rfl, rfl, h1, Nat.lt_of_le_of_lt h1 (by decide), by omega, by simp, Lib.hid rfl, Below.refl _ _⟩
  case round =>
    obtain ⟨f, j, o, rfl, rfl, hjm, hj, hf, ho, HD, hB⟩ := hrel
    cases f with
    | zero =>
      have hj0 : j = 0 := by simpa using hj
      subst hj0
      have hE := HD.out
      rw [mkD_zero] at hE
      have HE := Lib.hid hE
      have hcat : (⟨#[109]⟩ : ByteArray) ++ ⟨o.toArray⟩ = ⟨(mkT k).toArray⟩ := by
        unfold mkT; rw [← hE, ByteArray.mk_append_mk]; simp
      have HC := Lib.hid hcat
      have hlen : ¬ 9223372036854775807 < 1 + o.length := by omega
      clear hE hcat HD hj
      go_wp2_with fail
      go_ret
      exact ⟨by rw [← HC.out]; rfl, hB⟩
    | succ f =>
      by_cases h0 : j = 0
      · subst h0
        have hE := HD.out
        rw [mkD_zero] at hE
        have hcat : (⟨#[109]⟩ : ByteArray) ++ ⟨o.toArray⟩ = ⟨(mkT k).toArray⟩ := by
          unfold mkT; rw [← hE, ByteArray.mk_append_mk]; simp
        have HC := Lib.hid hcat
        have hlen : ¬ 9223372036854775807 < 1 + o.length := by omega
        clear hE hcat HD hj
        go_wp2_with fail
        go_ret
        exact ⟨by rw [← HC.out]; rfl, hB⟩
      · have hj0 : (0 : Int) < j := by omega
        have hj1 : j / 10 < 10 ^ f := by rw [Nat.pow_succ] at hj; omega
        have hD := HD.out
        rw [mkD_step (by omega)] at hD
        have HD' := Lib.hid hD
        have kc := conv_one wr j
        have hdig : IntKind.u8.wrap (48 + (j : Int) % 10) = 48 + (j : Int) % 10 := by rw [IntKind.wrap_u8]; omega
        have hlen : ¬ 9223372036854775807 < 1 + o.length := by omega
        clear hD HD hj
        go_wp2_with fail
        go_roundw
        case rel => exact ⟨f, j / 10, (48 + j % 10).toUInt8 :: o, by go_num, by rw [ByteArray.mk_append_mk]; simp, by omega, hj1, by omega, by simp; omega, HD', below_more hB hB.size _⟩
        case measure => simp [intOf]; omega
theorem own_neS {w1 w2 : World} {b1 b2 : Nat} {v1 v2 : Value} {x1 x2 : List (List UInt8)} (h1 : OwnS w1 b1 v1 x1) (h2 : OwnS w2 b2 v2 x2) (hb : w1.heap.size ≤ b2) : v1.ownBlock = none ∨ v1.ownBlock ≠ v2.ownBlock := by
  cases e1 : v1.ownBlock with
  | none => exact .inl rfl
  | some k =>
    refine .inr fun e => ?_
    have l1 := (h1.lt k e1).2
    have l2 := (h2.lt k e.symm).1
    omega
end Go.Proofs.YtoadkljaiegnlaaDoor
