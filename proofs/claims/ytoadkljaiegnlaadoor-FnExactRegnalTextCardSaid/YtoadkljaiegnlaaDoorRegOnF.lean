/- ReignsOn: the program's and the reference's functions return what the plain function says; marks in a list of reigns. Conditions: lengths that a machine can hold; how the list lies. -/
import Derived.Test.YtoadkljaiegnlaaDoorRegOn
import Derived.Test.YtoadkljaiegnlaaDoorHeldS
namespace Go.Proofs.YtoadkljaiegnlaaDoor
open Go.RowKit
/-- the reigns of a day, and the code -/
def onF (rs : List RG) (m : Int) : List Int × Int := if areB rs then (if inB m 0 730499 then (onK rs m rs.length, 0) else ([], 2)) else ([], 1)
theorem i_chk1 (m : Int) (w : World) : Calls Tryd.prog 70 #[.int .i64 m] w fun e w' => e = .returned (.bool (!inB m 0 730499)) ∧ w = w' := by
  obtain ⟨b, hb⟩ : ∃ b, inB m 0 730499 = b := ⟨_, rfl⟩
  rw [hb]
  have con := fun W => toB (i_day m W) hb
  have CON := Lib.hid con; clear con hb
  go_enter Tryd.func70, Tryd.ntmps70
  go_wp2_with fail
  refine (CON.out _).mono ?_
  rintro e w1 ⟨rfl, rfl⟩
  cases b
  all_goals
    go_wp2_with fail
    go_ret
    exact ⟨rfl, rfl⟩
theorem i_idxd (g : Nat) (m : Int) (w : World) (c0 : w.cell? ⟨g, 0, none⟩ = some (.int .i64 m)) : Calls Tryd.prog 102 #[.slice (some ⟨g, 0, none⟩) 1 1, .func (.func 70) #[] #[]] w fun e w' => e = .returned (.int .i64 (if inB m 0 730499 then -1 else 0)) ∧ w = w' := by
  have con := fun W => i_chk1 m W
  obtain ⟨b, hb⟩ : ∃ b, inB m 0 730499 = b := ⟨_, rfl⟩
  rw [hb] at con ⊢
  have CON := Lib.hid con; clear con hb
  go_enter Tryd.func102, Tryd.ntmps102
  go_wp2_with fail
  cases b with
  | true =>
    go_loop [8] (fun i => ∃ k : Nat, k ≤ 1 ∧ i = .int .i64 k) (fun i => 1 - (intOf i).toNat)
    case atStart => exact ⟨0, by omega, rfl⟩
    case round =>
      obtain ⟨k, hk, rfl⟩ := hrel
      by_cases h0 : k = 0
      · subst h0
        go_wp2_with fail
        refine (CON.out _).mono ?_
        rintro e w1 ⟨rfl, rfl⟩
        go_wp2_with fail
        go_round
        case rel => exact ⟨1, by omega, by go_num⟩
        case measure => simp [intOf]
      · obtain rfl : k = 1 := by omega
        go_wp2_with fail
        go_ret
        exact ⟨rfl, rfl⟩
  | false =>
    go_loop [8] (fun i => i = .int .i64 0) (fun i => 1 - (intOf i).toNat)
    case atStart => rfl
    case round =>
      subst hrel
      go_wp2_with fail
      refine (CON.out _).mono ?_
      rintro e w1 ⟨rfl, rfl⟩
      go_wp2_with fail
      go_ret
      exact ⟨rfl, rfl⟩
theorem i_chk (g c gd : Nat) (rs : List RG) (m : Int) (w : World) (hR : RowR w g rs.length rs) (hn : rs.length ≤ 1048576) (hok : ∀ i, rgOk (rs.getD i rg0)) (hd : gd < w.heap.size) (c0 : w.cell? ⟨gd, 0, none⟩ = some (.int .i64 m)) :
    Calls Tryd.prog 36 #[.slice (some ⟨g, 0, none⟩) rs.length c, .slice (some ⟨gd, 0, none⟩) 1 1] w fun e w' => e = .returned (.int .i64 (onF rs m).2) ∧ Below w.heap.size w w' := by
  have con := i_AreReigns g c rs w hR hn hok
  have con2 := fun W h => i_idxd gd m W h
  unfold onF
  obtain ⟨n, hnn⟩ : ∃ n, rs.length = n := ⟨_, rfl⟩
  rw [hnn] at con
  cases h1 : areB rs with
  | false =>
    rw [h1] at con
    have CON := Lib.hid con
    clear con con2
    rw [hnn]
    go_enter Tryd.func36, Tryd.ntmps36
    go_wp2_with fail
    refine CON.out.mono ?_
    rintro e w1 ⟨rfl, hb⟩
    go_wp2_with fail
    go_ret
    exact ⟨rfl, hb⟩
  | true =>
    rw [h1] at con
    cases h2 : inB m 0 730499 with
    | true =>
      rw [h2] at con2
      simp only [if_true] at con2
      have CON := Lib.hid con
      have CON2 := Lib.hid con2
      clear con con2
      rw [hnn]
      go_enter Tryd.func36, Tryd.ntmps36
      go_wp2_with fail
      refine CON.out.mono ?_
      rintro e w1 ⟨rfl, hb⟩
      have d0 := (hb.cell (p := ⟨gd, 0, none⟩) hd).trans c0
      go_wp2_with (go_at_call 69; go_in)
      refine (CON2.out _ d0).mono ?_
      rintro e w2 ⟨rfl, rfl⟩
      go_wp2_with fail
      go_ret
      exact ⟨rfl, hb⟩
    | false =>
      rw [h2] at con2
      simp only [Bool.false_eq_true, if_false] at con2
      have CON := Lib.hid con
      have CON2 := Lib.hid con2
      clear con con2
      rw [hnn]
      go_enter Tryd.func36, Tryd.ntmps36
      go_wp2_with fail
      refine CON.out.mono ?_
      rintro e w1 ⟨rfl, hb⟩
      have d0 := (hb.cell (p := ⟨gd, 0, none⟩) hd).trans c0
      go_wp2_with (go_at_call 69; go_in)
      refine (CON2.out _ d0).mono ?_
      rintro e w2 ⟨rfl, rfl⟩
      go_wp2_with fail
      go_ret
      exact ⟨rfl, hb⟩
end Go.Proofs.YtoadkljaiegnlaaDoor
