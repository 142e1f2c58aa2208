/- Lists of words: the program's areWords and the reference's test return what the plain function says. Condition: lengths that a machine can hold. -/
import Derived.Test.YtmpgokijlikddaaGreatDoorWordB
import Derived.Test.YtmpgokijlikddaaGreatDoorStrs
namespace Go.Proofs.YtmpgokijlikddaaGreatDoor
open Go.RowKit
theorem ret_bool {a b : Bool} (h : a = b) : Ending.returned (.bool a) = .returned (.bool b) := by rw [h]
def wordB (x : List UInt8) : Bool := smallB x 20
theorem word_len {x : List UInt8} (h : wordB x = true) : x.length ≤ 20 := by
  unfold wordB smallB at h
  simp only [Bool.and_eq_true, decide_eq_true_eq] at h
  omega
theorem word_len40 {x : List UInt8} (h : wordB x = true) : x.length ≤ 40 := Nat.le_trans (word_len h) (by omega)
theorem word_pos {x : List UInt8} (h : wordB x = true) : 0 < x.length := by
  unfold wordB smallB at h
  simp only [Bool.and_eq_true, decide_eq_true_eq] at h
  omega
theorem all_take {p : List UInt8 → Bool} (l : List (List UInt8)) (k : Nat) (h : k < l.length) : (l.take (k + 1)).all p = ((l.take k).all p && p (l.getD k [])) := by
  rw [List.take_succ_eq_append_getElem h, List.all_append, List.getD_eq_getElem?_getD, List.getElem?_eq_getElem h]; simp
theorem all_no {p : List UInt8 → Bool} (l : List (List UInt8)) (k : Nat) (h : k < l.length) (hp : p (l.getD k []) = false) : l.all p = false := by
  rw [← List.take_append_drop (k + 1) l, List.all_append, all_take l k h, hp, Bool.and_false, Bool.false_and]
theorem i_are1 (x : List UInt8) (w : World) (hx : x.length ≤ 9223372036854775807) :
    Calls Tryz.prog 220 #[.string ⟨x.toArray⟩] w fun e w' => e = .returned (.bool (!wordB x)) ∧ Below w.heap.size w w' := by
  have con := i_IsWord ⟨x.toArray⟩ w hx
  obtain ⟨b, hb⟩ : ∃ b, wordB x = b := ⟨_, rfl⟩
  have con' := toBelowB con hb
  have CON := Lib.hid con'; clear con con'
  rw [hb]; clear hb
  go_enter Tryz.func220, Tryz.ntmps220
  go_wp2_with fail
  refine CON.out.mono ?_
  rintro e w1 ⟨rfl, hb1⟩
  cases b
  all_goals
    go_wp2_with fail
    go_ret
    exact ⟨rfl, hb1⟩
theorem i_idxf {b : Nat} {v : Value} {l : List (List UInt8)} (w : World) (h : OwnS w b v l) (hx : ∀ j, (l.getD j []).length ≤ 9223372036854775807) :
    Calls Tryz.prog 265 #[v, .func (.func 220) #[] #[]] w fun e w' => ∃ r : Int, e = .returned (.int .i64 r) ∧ ((l.all wordB = true ∧ r = -1) ∨ (l.all wordB = false ∧ 0 ≤ r)) ∧ Below w.heap.size w w' := by
  obtain ⟨hl, A, c, rfl, p⟩ := h.opened
  have P := Lib.hid p; clear p h
  have hyes := fun k hk => all_take (p := wordB) l k hk
  have hno := fun k hk => all_no (p := wordB) l k hk
  have hend : (l.take l.length).all wordB = l.all wordB := by rw [List.take_length]
  have HY := Lib.hid hyes; clear hyes
  have HN := Lib.hid hno; clear hno
  have HX := Lib.hid hx; clear hx
  obtain ⟨n, hn⟩ : ∃ n, l.length = n := ⟨_, rfl⟩
  rw [hn] at hl P HY HN hend ⊢
  have HE := Lib.hid hend; clear hend hn
  go_enter Tryz.func265, Tryz.ntmps265
  go_wp2_with fail
  go_loopw [8] (fun i wr => ∃ k : Nat, k ≤ n ∧ i = .int .i64 k ∧ Hid ((l.take k).all wordB = true) ∧ Below w.heap.size w wr) (fun i _ => n - (intOf i).toNat)
  case atStart => exact ⟨0, by omega, rfl, by show _ = _; simp, Below.refl _ _⟩
  case round =>
    obtain ⟨k, hk, rfl, HA, hB⟩ := hrel
    by_cases hlt : k < n
    · obtain ⟨g1, rfl, _, hg1, hc1, _⟩ := P.out (by omega)
      have c1 := hc1 k hlt
      clear hc1
      have hlx := HX.out k
      have hyk := HY.out k hlt
      rw [HA.out, Bool.true_and] at hyk
      have hnk := HN.out k hlt
      obtain ⟨y, hy⟩ : ∃ y, l.getD k [] = y := ⟨_, rfl⟩
      rw [hy] at c1 hlx hyk hnk
      clear hy
      have c2 : wr.cell? ⟨g1, k, none⟩ = some (.string ⟨y.toArray⟩) := (hB.cell (p := ⟨g1, k, none⟩) hg1).trans c1
      clear c1
      have con := i_are1 y wr hlx
      obtain ⟨b', hb'⟩ : ∃ b', wordB y = b' := ⟨_, rfl⟩
      rw [hb'] at con hyk hnk
      have CON := Lib.hid con; clear con hb'
      cases b'
      · have HR := Lib.hid (hnk rfl)
        clear hnk hyk
        go_wp2_with fail
        refine CON.out.mono ?_
        rintro e w1 ⟨rfl, hb1⟩
        go_wp2_with fail
        go_ret
        exact ⟨k, rfl, .inr ⟨HR.out, by omega⟩, hB.trans (hb1.mono hB.size)⟩
      · have HR := Lib.hid hyk
        clear hnk hyk
        go_wp2_with fail
        refine CON.out.mono ?_
        rintro e w1 ⟨rfl, hb1⟩
        go_wp2_with fail
        go_roundw
        case rel => exact ⟨k + 1, by omega, by go_num, HR, hB.trans (hb1.mono hB.size)⟩
        case measure => simp [intOf]; omega
    · obtain rfl : k = n := by omega
      go_wp2_with fail
      go_ret
      exact ⟨-1, rfl, .inl ⟨by rw [← HE.out]; exact HA.out, rfl⟩, hB⟩
theorem i_cont {b : Nat} {v : Value} {l : List (List UInt8)} (w : World) (h : OwnS w b v l) (hx : ∀ j, (l.getD j []).length ≤ 9223372036854775807) :
    Calls Tryz.prog 219 #[v, .func (.func 220) #[] #[]] w fun e w' => e = .returned (.bool (!l.all wordB)) ∧ Below w.heap.size w w' := by
  have con := i_idxf w h hx
  have CON := Lib.hid con; clear con h hx
  go_enter Tryz.func219, Tryz.ntmps219
  go_wp2_with fail
  refine CON.out.mono ?_
  rintro e w1 ⟨r, rfl, hr, hb⟩
  rcases hr with ⟨h1, rfl⟩ | ⟨h1, h2⟩
  · have H1 := Lib.hid h1; clear h1
    go_wp2_with fail
    go_ret
    exact ⟨by rw [H1.out]; rfl, hb⟩
  · have H1 := Lib.hid h1; clear h1
    go_wp2_with fail
    go_ret
    exact ⟨by rw [H1.out]; rfl, hb⟩
theorem i_are {b : Nat} {v : Value} {l : List (List UInt8)} (w : World) (h : OwnS w b v l) (hx : ∀ j, (l.getD j []).length ≤ 9223372036854775807) :
    Calls Tryz.prog 172 #[v] w fun e w' => e = .returned (.bool (l.all wordB)) ∧ Below w.heap.size w w' := by
  have con := i_cont w h hx
  have CON := Lib.hid con; clear con h hx
  go_enter Tryz.func172, Tryz.ntmps172
  go_wp2_with fail
  refine CON.out.mono ?_
  rintro e w1 ⟨rfl, hb⟩
  obtain ⟨b', hb'⟩ : ∃ b', l.all wordB = b' := ⟨_, rfl⟩
  rw [hb']
  have HB := Lib.hid hb'; clear hb'
  cases b'
  all_goals
    go_wp2_with fail
    go_ret
    exact ⟨by rw [HB.out]; rfl, hb⟩
theorem s_phrase {b : Nat} {v : Value} {l : List (List UInt8)} (w : World) (h : OwnS w b v l) (hx : ∀ j, (l.getD j []).length ≤ 9223372036854775807) :
    Calls Tryz.prog 102 #[v] w fun e w' => e = .returned (.bool (l.all wordB && decide (l.length ≤ 60))) ∧ w = w' := by
  obtain ⟨hl, A, c, rfl, p⟩ := h.opened
  have P := Lib.hid p; clear p h
  have hyes := fun k hk => all_take (p := wordB) l k hk
  have hno := fun k hk => all_no (p := wordB) l k hk
  have hend : (l.take l.length).all wordB = l.all wordB := by rw [List.take_length]
  have HY := Lib.hid hyes; clear hyes
  have HN := Lib.hid hno; clear hno
  have HX := Lib.hid hx; clear hx
  obtain ⟨n, hn⟩ : ∃ n, l.length = n := ⟨_, rfl⟩
  rw [hn] at hl P HY HN hend ⊢
  have HE := Lib.hid hend; clear hend hn
  go_enter Tryz.func102, Tryz.ntmps102
  go_wp2_with fail
  go_loop [3] (fun i => ∃ k : Nat, k ≤ n ∧ i = .int .i64 k ∧ Hid ((l.take k).all wordB = true)) (fun i => n - (intOf i).toNat)
  case atStart => exact ⟨0, by omega, rfl, by show _ = _; simp⟩
  case round =>
    obtain ⟨k, hk, rfl, HA⟩ := hrel
    by_cases hlt : k < n
    · obtain ⟨g1, rfl, _, hg1, hc1, _⟩ := P.out (by omega)
      have c1 := hc1 k hlt
      clear hc1
      have hlx := HX.out k
      have hyk := HY.out k hlt
      rw [HA.out, Bool.true_and] at hyk
      have hnk := HN.out k hlt
      obtain ⟨y, hy⟩ : ∃ y, l.getD k [] = y := ⟨_, rfl⟩
      rw [hy] at c1 hlx hyk hnk
      clear hy
      have con := fun W => s_IsWord ⟨y.toArray⟩ W hlx
      obtain ⟨b', hb'⟩ : ∃ b', wordB y = b' := ⟨_, rfl⟩
      rw [hb'] at hyk hnk
      have con' := fun W => toB (con W) hb'
      have CON := Lib.hid con'; clear con con' hb'
      cases b'
      · have HR := Lib.hid (hnk rfl)
        clear hnk hyk
        go_wp2_with fail
        refine (CON.out _).mono ?_
        rintro e w1 ⟨rfl, rfl⟩
        go_wp2_with fail
        go_ret
        exact ⟨by rw [HR.out]; rfl, rfl⟩
      · have HR := Lib.hid hyk
        clear hnk hyk
        go_wp2_with fail
        refine (CON.out _).mono ?_
        rintro e w1 ⟨rfl, rfl⟩
        go_wp2_with fail
        go_round
        case rel => exact ⟨k + 1, by omega, by go_num, HR⟩
        case measure => simp [intOf]; omega
    · obtain rfl : k = n := by omega
      have hr := HE.out.symm.trans HA.out
      have HR := Lib.hid hr; clear hr
      by_cases h60 : k ≤ 60
      · have hF : (l.all wordB && decide (k ≤ 60)) = true := by rw [HR.out]; simp [h60]
        have hd : decide ((k : Int) ≤ 60) = true := by simp; omega
        go_wp2_with fail
        go_ret
        exact ⟨by rw [HR.out]; rfl, rfl⟩
      · have hF : (l.all wordB && decide (k ≤ 60)) = false := by simp [h60]
        have hd : decide ((k : Int) ≤ 60) = false := by simp; omega
        go_wp2_with fail
        go_ret
        exact ⟨rfl, rfl⟩
end Go.Proofs.YtmpgokijlikddaaGreatDoor
