/- The number that a text of digits spells, by the reference. Condition: a text that a machine can hold. -/
import Derived.Test.YtmpgokijlikddaaGreatDoorNmP
import Derived.Test.YtmpgokijlikddaaGreatDoorDec
import Derived.IntWalk
namespace Go.Proofs.YtmpgokijlikddaaGreatDoor
open Go.RowKit Go.Lib
theorem sdF_len {x : List UInt8} (h : ¬ (1 ≤ x.length ∧ x.length ≤ 9)) : sdF x = (0, false) := by unfold sdF; rw [if_neg (fun h' => h h'.1)]
theorem sdF_bad {x : List UInt8} {k : Nat} (hk : k < x.length) (h : dgB (x.getD k 0) = false) : sdF x = (0, false) := by
  have h2 : ¬ x.all dgB = true := by
    intro h3
    rw [List.all_eq_true] at h3
    have e : x.getD k 0 = x[k] := by simp [hk]
    rw [e, h3 x[k] (List.getElem_mem hk)] at h
    cases h
  unfold sdF; rw [if_neg (fun h' => h2 h'.2)]
theorem sdF_good {x : List UInt8} (h1 : 1 ≤ x.length) (h9 : x.length ≤ 9) (h : ∀ j, j < x.length → dgB (x.getD j 0) = true) : sdF x = ((dvF 0 x : Int), decide (decDigits (dvF 0 x) = x)) ∧ dvF 0 x ≤ 999999999 := by
  have h2 : ∀ c ∈ x, dgB c = true := by
    intro c hc
    obtain ⟨j, hj, rfl⟩ := List.getElem_of_mem hc
    have e : x.getD j 0 = x[j] := by simp [hj]
    rw [← e]; exact h j hj
  refine ⟨?_, dv_9 h2 h9⟩
  unfold sdF; rw [if_pos ⟨⟨h1, h9⟩, List.all_eq_true.2 h2⟩]
set_option maxRecDepth 100000 in
set_option maxHeartbeats 2000000 in
theorem s_digits (x : List UInt8) (w : World) (hx : x.length ≤ 9223372036854775807) : Calls Tryz.prog 127 #[.string ⟨x.toArray⟩] w fun e w' => e = .returned (.tuple #[.int .i64 (sdF x).1, .bool (sdF x).2]) ∧ Below w.heap.size w w' := by
  have hsz : (⟨x.toArray⟩ : ByteArray).size = x.length := by simp [ByteArray.size]
  by_cases hl : 1 ≤ x.length ∧ x.length ≤ 9
  · obtain ⟨G, hG⟩ : ∃ G, sdF x = G := ⟨_, rfl⟩
    rw [hG]
    have HB := Lib.hid (fun k hk h => (hG.symm.trans (sdF_bad (x := x) (k := k) hk h)))
    have HGD := Lib.hid (fun h => (show G = _ from hG.symm.trans (sdF_good (x := x) hl.1 hl.2 h).1))
    have H9 := Lib.hid (fun h => (sdF_good (x := x) hl.1 hl.2 h).2)
    have HT := Lib.hid (fun k hk => dv_take x k hk)
    have HD := Lib.hid (fun u (W : World) h => s_dec u W h)
    have H99 : Hid (∀ k, k ≤ x.length → (∀ j, j < k → dgB (x.getD j 0) = true) → dvF 0 (x.take k) ≤ 999999999) := Lib.hid (fun k hk h => dv_9 (fun c hc => by
      obtain ⟨j, hj, rfl⟩ := List.getElem_of_mem hc
      have hj' : j < k := by rw [List.length_take] at hj; omega
      have e : x.getD j 0 = x[j]'(by omega) := by simp [show j < x.length from by omega]
      rw [List.getElem_take, ← e]
      exact h j hj') (by rw [List.length_take]; omega))
    clear hG
    obtain ⟨h1, h9⟩ := hl
    go_enter Tryz.func127, Tryz.ntmps127
    go_wp2_with fail
    go_loop [4, 5] (fun a i => ∃ k : Nat, k ≤ x.length ∧ i = .int .i64 k ∧ a = .int .i64 (dvF 0 (x.take k) : Nat) ∧ Hid (∀ j, j < k → dgB (x.getD j 0) = true)) (fun _ i => x.length - (intOf i).toNat)
    case atStart => exact ⟨0, by omega, rfl, by simp [dvF], Lib.hid (fun j hj => by omega)⟩
    case round =>
      obtain ⟨k, hk, rfl, rfl, hall⟩ := hrel
      have hd9 := H99.out k hk hall.out
      by_cases hlt : k < x.length
      · have ht := HT.out k hlt
        have hbad := HB.out k hlt
        obtain ⟨V, hV⟩ : ∃ V, dvF 0 (x.take k) = V := ⟨_, rfl⟩
        rw [hV] at ht hd9 ⊢
        have ec : (⟨x.toArray⟩ : ByteArray)[k]'(by rw [hsz]; exact hlt) = x.getD k 0 := by
          show x.toArray[k] = _
          simp [hlt]
        obtain ⟨ch, hch⟩ : ∃ ch, x.getD k 0 = ch := ⟨_, rfl⟩
        rw [hch] at ht hbad ec
        have hcl : ch.toNat < 256 := ch.toNat_lt
        by_cases hb1 : (ch.toNat : Int) < 48
        · have HG := Lib.hid (hbad (by unfold dgB; simp; omega))
          clear hbad ht hall
          go_wp2_with fail
          go_ret2
          exact ⟨by rw [HG.out]; rfl, Below.refl _ _⟩
        · by_cases hb2 : (57 : Int) < ch.toNat
          · have HG := Lib.hid (hbad (by unfold dgB; simp; omega))
            have hb1' : (48 : Int) ≤ ch.toNat := by omega
            clear hbad ht hall hb1
            go_wp2_with fail
            go_ret2
            exact ⟨by rw [HG.out]; rfl, Below.refl _ _⟩
          · have hb1' : (48 : Int) ≤ ch.toNat := by omega
            have hb2' : (ch.toNat : Int) ≤ 57 := by omega
            have hdg : dgB ch = true := by unfold dgB; simp; omega
            have HT2 := Lib.hid ht
            have w1 : IntKind.u8.wrap ((ch.toNat : Int) - 48) = (ch.toNat : Int) - 48 := by rw [IntKind.wrap_u8]; omega
            have w2 : IntKind.i64.wrap (10 * (V : Int)) = 10 * (V : Int) := IntWalk.i64_in _ (by omega)
            have w3 : IntKind.i64.wrap (10 * (V : Int) + ((ch.toNat : Int) - 48)) = 10 * (V : Int) + ((ch.toNat : Int) - 48) := IntWalk.i64_in _ (by omega)
            have w4 : IntKind.i64.wrap ((ch.toNat : Int) - 48) = (ch.toNat : Int) - 48 := IntWalk.i64_in _ (by omega)
            clear hbad ht hb1 hb2
            go_wp2_with fail
            go_round
            case rel => exact ⟨k + 1, by omega, by go_num, by rw [HT2.out]; congr 1; omega, Lib.hid (fun j hj => by
              by_cases hjk : j = k
              · subst hjk; rw [hch]; exact hdg
              · exact hall.out j (by omega))⟩
            case measure => simp [intOf]; omega
      · obtain rfl : k = x.length := by omega
        have hgd := HGD.out hall.out
        have h99 := H9.out hall.out
        rw [List.take_length] at hd9 ⊢
        have DC := Lib.hid (fun W => HD.out (dvF 0 x) W (by omega))
        have HG := Lib.hid hgd
        obtain ⟨V, hV⟩ : ∃ V, dvF 0 x = V := ⟨_, rfl⟩
        rw [hV] at HG DC ⊢
        clear hgd hd9 h99 hV
        go_wp2_with fail
        refine (DC.out _).mono ?_
        rintro e w2 ⟨rfl, hb⟩
        go_wp2_with fail
        go_ret2
        exact ⟨by rw [HG.out]; simp; by_cases h : decDigits V = x <;> simp [h], hb⟩
  · rw [sdF_len hl]
    by_cases h0 : x.length < 1
    · go_enter Tryz.func127, Tryz.ntmps127
      go_wp2_with fail
      go_ret2
      exact ⟨rfl, Below.refl _ _⟩
    · have h1 : ¬ (x.length : Int) < 1 := by omega
      have h9 : (9 : Int) < x.length := by omega
      go_enter Tryz.func127, Tryz.ntmps127
      go_wp2_with fail
      go_ret2
      exact ⟨rfl, Below.refl _ _⟩
end Go.Proofs.YtmpgokijlikddaaGreatDoor
