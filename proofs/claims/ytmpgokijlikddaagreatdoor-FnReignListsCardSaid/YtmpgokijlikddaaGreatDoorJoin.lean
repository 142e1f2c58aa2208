/- Texts put together: plain laws, and the reference's l01Join. Conditions: few short texts. -/
import Derived.Test.YtmpgokijlikddaaGreatDoorStrs
import Derived.Lib.Join
namespace Go.Proofs.YtmpgokijlikddaaGreatDoor
open Go.RowKit
theorem join_snoc (l : List (List UInt8)) (x sep : List UInt8) (h : l ≠ []) : Lib.join (l ++ [x]) sep = Lib.join l sep ++ sep ++ x := by
  cases l with
  | nil => exact absurd rfl h
  | cons y r =>
    rw [List.cons_append, Lib.join_cons, Lib.join_cons]
    simp [Lib.joinTail]
theorem join_take0 (l : List (List UInt8)) (sep : List UInt8) (h : 0 < l.length) : Lib.join (l.take 1) sep = l.getD 0 [] := by
  cases l with
  | nil => simp at h
  | cons y r => simp [Lib.join_one]
theorem join_takeS (l : List (List UInt8)) (sep : List UInt8) (k : Nat) (h : k + 1 < l.length) : Lib.join (l.take (k + 2)) sep = Lib.join (l.take (k + 1)) sep ++ sep ++ l.getD (k + 1) [] := by
  rw [List.take_succ_eq_append_getElem h, join_snoc _ _ _ (by simp; intro h0; rw [h0] at h; simp at h)]
  simp [h]
theorem join_len1 (l : List (List UInt8)) (c : UInt8) (M : Nat) (hM : ∀ i, (l.getD i []).length ≤ M) : ∀ k, k ≤ l.length → (Lib.join (l.take k) [c]).length ≤ (M + 1) * k
  | 0, _ => by simp [Lib.join_nil]
  | 1, h => by rw [join_take0 l [c] (by omega)]; have := hM 0; omega
  | k + 2, h => by
    rw [join_takeS l [c] k (by omega)]
    have := join_len1 l c M hM (k + 1) (by omega)
    have := hM (k + 1)
    simp only [List.length_append, List.length_singleton]
    have e2 : (M + 1) * (k + 2) = (M + 1) * (k + 1) + (M + 1) := rfl
    omega
theorem bapp (a b : List UInt8) : (⟨a.toArray⟩ : ByteArray) ++ ⟨b.toArray⟩ = ⟨(a ++ b).toArray⟩ := by
  rw [ByteArray.mk_append_mk]
set_option maxRecDepth 100000 in
theorem s_join {b : Nat} {v : Value} {xs : List (List UInt8)} (ch : UInt8) (w : World) (h : OwnS w b v xs) (hn : xs.length ≤ 1000) (hM : ∀ i, (xs.getD i []).length ≤ 1000) :
    Calls Tryz.prog 83 #[v, .string ⟨#[ch]⟩] w fun e w' => e = .returned (.string ⟨(Lib.join xs [ch]).toArray⟩) ∧ w = w' := by
  obtain ⟨hl, A1, c1, rfl, p1⟩ := h.opened
  have P1 := Lib.hid p1; clear p1 h
  have J0 := Lib.hid (join_take0 xs [ch])
  have JS := Lib.hid (join_takeS xs [ch])
  have JL := Lib.hid (join_len1 xs ch 1000 hM)
  have JE := Lib.hid (show Lib.join (xs.take xs.length) [ch] = Lib.join xs [ch] by rw [List.take_length])
  have HM := Lib.hid hM; clear hM
  obtain ⟨n, hnn⟩ : ∃ n, xs.length = n := ⟨_, rfl⟩
  rw [hnn] at P1 hl hn J0 JS JL JE ⊢
  clear hnn
  go_enter Tryz.func83, Tryz.ntmps83
  go_wp2_with fail

  go_loop [5, 6] (fun o i => ∃ k : Nat, k ≤ n ∧ i = .int .i64 k ∧ ∃ t : List UInt8, o = .string ⟨t.toArray⟩ ∧ Hid (t = Lib.join (xs.take k) [ch])) (fun _ i => n - (intOf i).toNat)
  case atStart => exact ⟨0, by omega, rfl, [], rfl, Lib.hid (by simp [Lib.join_nil])⟩
  case round =>
    obtain ⟨k, hk, rfl, t, rfl, HT⟩ := hrel
    have htl := JL.out k hk
    rw [← HT.out] at htl
    by_cases hlt : k < n
    · obtain ⟨g1, rfl, _, hg1, hc1, _⟩ := P1.out (by omega)
      have d1 := hc1 k hlt
      clear hc1
      have hy1 := HM.out k
      cases k with
      | zero =>
        have hj := J0.out (by omega)
        obtain ⟨y, hy⟩ : ∃ y, xs.getD 0 [] = y := ⟨_, rfl⟩
        rw [hy] at d1 hj hy1
        have ht0 : t = [] := by rw [HT.out]; simp [Lib.join_nil]
        subst ht0
        have HJ := Lib.hid hj; clear hj hy htl
        have hc0 : ¬ 9223372036854775807 < ([] : List UInt8).length + y.length := by simp; omega
        go_wp2_with fail
        go_round
        case rel => exact ⟨1, by omega, by go_num, y, by first | rfl | go_show, Lib.hid HJ.out.symm⟩
        case measure => simp [intOf]; omega
      | succ k =>
        have hj := JS.out k hlt
        obtain ⟨y, hy⟩ : ∃ y, xs.getD (k + 1) [] = y := ⟨_, rfl⟩
        rw [hy] at d1 hj hy1
        rw [← HT.out] at hj
        have HJ := Lib.hid hj; clear hj hy
        have hmul : 1001 * (k + 1) ≤ 1001 * 1000 := Nat.mul_le_mul_left _ (by omega)
        have hc0 : ¬ 9223372036854775807 < t.length + 1 := by omega
        have hc1 : ¬ 9223372036854775807 < t.length + 1 + y.length := by omega
        have hk1 : (0 : Int) < (k : Int) + 1 := by omega
        go_wp2_with fail
        go_round
        case rel => exact ⟨k + 2, by omega, by go_num, t ++ [ch] ++ y, by rw [show (⟨#[ch]⟩ : ByteArray) = ⟨[ch].toArray⟩ from rfl, bapp, bapp], Lib.hid HJ.out.symm⟩
        case measure => simp [intOf]; omega
    · obtain rfl : k = n := by omega
      have hE := HT.out.trans JE.out
      have HE := Lib.hid hE; clear hE
      go_wp2_with fail
      go_ret
      exact ⟨by rw [← HE.out]; rfl, rfl⟩
end Go.Proofs.YtmpgokijlikddaaGreatDoor
