/- ReignsOn: the program's and the reference's functions return what the plain function says; marks in a list of reigns. Conditions: lengths that a machine can hold; how the list lies. -/
import Derived.Test.YtffpaedhdjnbjaaDoorRegOn
import Derived.Test.YtffpaedhdjnbjaaDoorHeldS
namespace Go.Proofs.YtffpaedhdjnbjaaDoor
open Go.RowKit
/-- the reigns of a day, and the code -/
def onF (rs : List RG) (m : Int) : List Int × Int := if areB rs then (if inB m 0 730499 then (onK rs m rs.length, 0) else ([], 2)) else ([], 1)
theorem i_chk1 (m : Int) (w : World) : Calls Tryd.prog 107 #[.int .i64 m] w fun e w' => e = .returned (.bool (!inB m 0 730499)) ∧ w = w' := by
  obtain ⟨b, hb⟩ : ∃ b, inB m 0 730499 = b := ⟨_, rfl⟩
  rw [hb]
  have con := fun W => toB (i_day m W) hb
  have CON := Lib.hid con; clear con hb
  go_enter Tryd.func107, Tryd.ntmps107
  go_wp2_with fail
  refine (CON.out _).mono ?_
  rintro e w1 ⟨rfl, rfl⟩
  cases b
  all_goals
    go_wp2_with fail
    go_ret
    exact ⟨rfl, rfl⟩
theorem i_idxd (g : Nat) (m : Int) (w : World) (c0 : w.cell? ⟨g, 0, none⟩ = some (.int .i64 m)) : Calls Tryd.prog 124 #[.slice (some ⟨g, 0, none⟩) 1 1, .func (.func 107) #[] #[]] w fun e w' => e = .returned (.int .i64 (if inB m 0 730499 then -1 else 0)) ∧ w = w' := by
  have con := fun W => i_chk1 m W
  obtain ⟨b, hb⟩ : ∃ b, inB m 0 730499 = b := ⟨_, rfl⟩
  rw [hb] at con ⊢
  have CON := Lib.hid con; clear con hb
  go_enter Tryd.func124, Tryd.ntmps124
  go_wp2_with fail
  cases b with
  | true =>
    go_loop [8] (fun i => ∃ k : Nat, k ≤ 1 ∧ i = .int .i64 k) (fun i => 1 - (intOf i).toNat)
    case atStart => exact ⟨0, by omega, rfl⟩
    case round =>
      obtain ⟨k, hk, rfl⟩ := hrel
      by_cases h0 : k = 0
      · subst h0
        go_wp2_with fail
        refine (CON.out _).mono ?_
        rintro e w1 ⟨rfl, rfl⟩
        go_wp2_with fail
        go_round
        case rel => exact ⟨1, by omega, by go_num⟩
        case measure => simp [intOf]
      · obtain rfl : k = 1 := by omega
        go_wp2_with fail
        go_ret
        exact ⟨rfl, rfl⟩
  | false =>
    go_loop [8] (fun i => i = .int .i64 0) (fun i => 1 - (intOf i).toNat)
    case atStart => rfl
    case round =>
      subst hrel
      go_wp2_with fail
      refine (CON.out _).mono ?_
      rintro e w1 ⟨rfl, rfl⟩
      go_wp2_with fail
      go_ret
      exact ⟨rfl, rfl⟩
theorem i_chk (g c gd : Nat) (rs : List RG) (m : Int) (w : World) (hR : RowR w g rs.length rs) (hn : rs.length ≤ 1048576) (hok : ∀ i, rgOk (rs.getD i rg0)) (hd : gd < w.heap.size) (c0 : w.cell? ⟨gd, 0, none⟩ = some (.int .i64 m)) :
    Calls Tryd.prog 81 #[.slice (some ⟨g, 0, none⟩) rs.length c, .slice (some ⟨gd, 0, none⟩) 1 1] w fun e w' => e = .returned (.int .i64 (onF rs m).2) ∧ Below w.heap.size w w' := by
  have con := i_AreReigns g c rs w hR hn hok
  have con2 := fun W h => i_idxd gd m W h
  unfold onF
  obtain ⟨n, hnn⟩ : ∃ n, rs.length = n := ⟨_, rfl⟩
  rw [hnn] at con
  cases h1 : areB rs with
  | false =>
    rw [h1] at con
    have CON := Lib.hid con
    clear con con2
    rw [hnn]
    go_enter Tryd.func81, Tryd.ntmps81
    go_wp2_with fail
    refine CON.out.mono ?_
    rintro e w1 ⟨rfl, hb⟩
    go_wp2_with fail
    go_ret
    exact ⟨rfl, hb⟩
  | true =>
    rw [h1] at con
    cases h2 : inB m 0 730499 with
    | true =>
      rw [h2] at con2
      simp only [if_true] at con2
      have CON := Lib.hid con
      have CON2 := Lib.hid con2
      clear con con2
      rw [hnn]
      go_enter Tryd.func81, Tryd.ntmps81
      go_wp2_with fail
      refine CON.out.mono ?_
      rintro e w1 ⟨rfl, hb⟩
      have d0 := (hb.cell (p := ⟨gd, 0, none⟩) hd).trans c0
      go_wp2_with (go_at_call 106; go_in)
      refine (CON2.out _ d0).mono ?_
      rintro e w2 ⟨rfl, rfl⟩
      go_wp2_with fail
      go_ret
      exact ⟨rfl, hb⟩
    | false =>
      rw [h2] at con2
      simp only [Bool.false_eq_true, if_false] at con2
      have CON := Lib.hid con
      have CON2 := Lib.hid con2
      clear con con2
      rw [hnn]
      go_enter Tryd.func81, Tryd.ntmps81
      go_wp2_with fail
      refine CON.out.mono ?_
      rintro e w1 ⟨rfl, hb⟩
      have d0 := (hb.cell (p := ⟨gd, 0, none⟩) hd).trans c0
      go_wp2_with (go_at_call 106; go_in)
      refine (CON2.out _ d0).mono ?_
      rintro e w2 ⟨rfl, rfl⟩
      go_wp2_with fail
      go_ret
      exact ⟨rfl, hb⟩
set_option maxRecDepth 100000 in
theorem i_ReignsOn (g c : Nat) (rs : List RG) (m : Int) (w : World) (hR : RowR w g rs.length rs) (hn : rs.length ≤ 1048576) (hok : ∀ i, rgOk (rs.getD i rg0)) (hg : g < w.heap.size) :
    Calls Tryd.prog 39 #[.slice (some ⟨g, 0, none⟩) rs.length c, .int .i64 m] w fun e w' => ∃ v, e = .returned (.tuple #[v, .int .i64 (onF rs m).2]) ∧ OwnI w' w.heap.size v (onF rs m).1 ∧ Below w.heap.size w w' := by
  have con := fun gd W h1 h2 h3 => i_chk g c gd rs m W h1 hn hok h2 h3
  have con2 := fun W h => i_on7 g c rs m W h hn
  have HF := Lib.hid (show onF rs m = if areB rs then (if inB m 0 730499 then (onK rs m rs.length, 0) else ([], 2)) else ([], 1) from rfl)
  have HR := Lib.hid hR; clear hR
  obtain ⟨n, hnn⟩ : ∃ n, rs.length = n := ⟨_, rfl⟩
  rw [hnn] at con con2 HR HF hn ⊢
  clear hnn
  have hcase : (areB rs = true ∧ inB m 0 730499 = true) ∨ (∃ k, onF rs m = ([], k) ∧ (k = 1 ∨ k = 2)) := by
    rw [HF.out]
    cases areB rs
    · exact .inr ⟨1, rfl, .inl rfl⟩
    · cases inB m 0 730499
      · exact .inr ⟨2, rfl, .inr rfl⟩
      · exact .inl ⟨rfl, rfl⟩
  rcases hcase with ⟨h1, h2⟩ | ⟨k, hk, hk'⟩
  · have hF : onF rs m = (onK rs m n, 0) := by rw [HF.out, h1, h2]; rfl
    rw [hF] at con ⊢
    have CON := Lib.hid con
    have CON2 := Lib.hid con2
    obtain ⟨l, hl⟩ : ∃ l, onK rs m n = l := ⟨_, rfl⟩
    rw [hl] at CON2 ⊢
    clear con con2 h1 h2 hF HF hl
    have hA := (below_alloc w (.cells #[.int .i64 m] 2))
    have hR1 := HR.out.below hA hg
    go_enter Tryd.func39, Tryd.ntmps39
    go_wp2_with fail
    refine (CON.out _ _ hR1 (by simp) (Blk.new w _ _).c0).mono ?_
    rintro e w1 ⟨rfl, hb⟩
    have L1 := hA.trans (hb.mono (by simp))
    have hR2 := hR1.below hb (by simp; omega)
    go_wp2_with fail
    refine (CON2.out _ hR2).mono ?_
    rintro e w2 ⟨v, rfl, ho, hb2⟩
    go_wp2_with fail
    go_ret2
    exact ⟨_, rfl, ho.mono L1.size, below_step L1 hb2⟩
  · rw [hk] at con ⊢
    have CON := Lib.hid con
    have hA := (below_alloc w (.cells #[.int .i64 m] 2))
    have hR1 := HR.out.below hA hg
    clear con con2 hk HF
    rcases hk' with rfl | rfl
    all_goals
      go_enter Tryd.func39, Tryd.ntmps39
      go_wp2_with fail
      refine (CON.out _ _ hR1 (by simp) (Blk.new w _ _).c0).mono ?_
      rintro e w1 ⟨rfl, hb⟩
      have L1 := hA.trans (hb.mono (by simp))
      go_wp2_with fail
      go_ret2
      exact ⟨_, rfl, OwnI.nil _ _, L1⟩
set_option maxRecDepth 100000 in
theorem s_ReignsOn (g c : Nat) (rs : List RG) (m : Int) (w : World) (hR : RowR w g rs.length rs) (hn : rs.length ≤ 1048576) (hok : ∀ i, rgOk (rs.getD i rg0)) (hg : g < w.heap.size) :
    Calls Tryd.prog 38 #[.slice (some ⟨g, 0, none⟩) rs.length c, .int .i64 m] w fun e w' => ∃ v, e = .returned (.tuple #[v, .int .i64 (onF rs m).2]) ∧ OwnI w' w.heap.size v (onF rs m).1 ∧ Below w.heap.size w w' := by
  have con := s_AreReigns g c rs w hR hn hok
  have con2 := fun W h => s_on7 g c rs m W h hn
  have HF := Lib.hid (show onF rs m = if areB rs then (if inB m 0 730499 then (onK rs m rs.length, 0) else ([], 2)) else ([], 1) from rfl)
  have HR := Lib.hid hR; clear hR
  obtain ⟨n, hnn⟩ : ∃ n, rs.length = n := ⟨_, rfl⟩
  rw [hnn] at con con2 HR HF hn ⊢
  clear hnn
  cases h1 : areB rs with
  | false =>
    have hF : onF rs m = ([], 1) := by rw [HF.out, h1]; rfl
    rw [hF]
    rw [h1] at con
    have CON := Lib.hid con
    clear con con2 hF HF
    go_enter Tryd.func38, Tryd.ntmps38
    go_wp2_with fail
    refine CON.out.mono ?_
    rintro e w1 ⟨rfl, hb⟩
    go_wp2_with fail
    go_ret2
    exact ⟨_, rfl, OwnI.nil _ _, hb⟩
  | true =>
    rw [h1] at con
    cases h2 : inB m 0 730499 with
    | false =>
      have hF : onF rs m = ([], 2) := by rw [HF.out, h1, h2]; rfl
      rw [hF]
      have CON := Lib.hid con
      clear con con2 hF HF
      go_enter Tryd.func38, Tryd.ntmps38
      go_wp2_with fail
      refine CON.out.mono ?_
      rintro e w1 ⟨rfl, hb⟩
      go_wp2_with fail
      refine (toB (s_day _ _) h2).mono ?_
      rintro e w2 ⟨rfl, rfl⟩
      go_wp2_with fail
      go_ret2
      exact ⟨_, rfl, OwnI.nil _ _, hb⟩
    | true =>
      have hF : onF rs m = (onK rs m n, 0) := by rw [HF.out, h1, h2]; rfl
      rw [hF]
      have CON := Lib.hid con
      have CON2 := Lib.hid con2
      obtain ⟨l, hl⟩ : ∃ l, onK rs m n = l := ⟨_, rfl⟩
      rw [hl] at CON2 ⊢
      clear con con2 hF HF hl
      go_enter Tryd.func38, Tryd.ntmps38
      go_wp2_with fail
      refine CON.out.mono ?_
      rintro e w1 ⟨rfl, hb⟩
      have hR2 := HR.out.below hb hg
      go_wp2_with fail
      refine (toB (s_day _ _) h2).mono ?_
      rintro e w2 ⟨rfl, rfl⟩
      go_wp2_with fail
      refine (CON2.out _ hR2).mono ?_
      rintro e w2 ⟨v, rfl, ho, hb2⟩
      go_wp2_with fail
      go_ret2
      exact ⟨_, rfl, ho.mono hb.size, below_step hb hb2⟩
end Go.Proofs.YtffpaedhdjnbjaaDoor
