/- ReadNumber: the program's and the reference's functions return what the plain function says. Conditions: a text that a machine can hold; for the program, the variables that it reads as they were laid. -/
import Derived.Test.YtmpgokijlikddaaGreatDoorNumI
import Derived.Test.YtmpgokijlikddaaGreatDoorDigS
import Derived.Test.YtmpgokijlikddaaGreatDoorRnI
import Derived.Test.YtmpgokijlikddaaGreatDoorRnS
import Derived.Test.YtmpgokijlikddaaGreatDoorArith
namespace Go.Proofs.YtmpgokijlikddaaGreatDoor
open Go.RowKit
theorem rd_T {x : List UInt8} (h : nmB x = true) : rdF x = ((dvF 0 x : Int), true) := by unfold rdF; rw [if_pos h]
theorem rd_F {x : List UInt8} (h : nmB x = false) : rdF x = rnF x := by unfold rdF; rw [if_neg (by rw [h]; decide)]
set_option maxRecDepth 100000 in
theorem i_ReadNumber (x : List UInt8) (w : World) (hx : x.length ≤ 1048576) (hN : NumOk w) (hm : MaxOk w) : Calls Tryz.prog 57 #[.string ⟨x.toArray⟩] w fun e w' => e = .returned (.tuple #[.int .i64 (rdF x).1, .bool (rdF x).2]) ∧ Below w.heap.size w w' := by
  have con := i_number x w hx hN
  have HM := Lib.hid hm
  clear hm hN
  cases hn : nmB x with
  | true =>
    rw [rd_T hn]
    rw [numF_yes hn] at con
    have hb : inB (dvF 0 x : Int) 1 3999 = true := by
      obtain ⟨⟨h1, h2⟩, _⟩ := nmB_is hn
      unfold inB; simp; omega
    have CON := Lib.hid con
    have NC := Lib.hid (fun W => toB (i_numeral (dvF 0 x) W) hb)
    obtain ⟨V, hV⟩ : ∃ V : Int, (dvF 0 x : Int) = V := ⟨_, rfl⟩
    rw [hV] at CON NC ⊢
    clear con hb hn hV
    go_enter Tryz.func57, Tryz.ntmps57
    go_wp2_with fail
    refine CON.out.mono ?_
    rintro e w1 ⟨rfl, hb1⟩
    go_wp2_with fail
    refine (NC.out _).mono ?_
    rintro e w2 ⟨rfl, rfl⟩
    go_wp2_with fail
    go_ret2
    exact ⟨rfl, hb1⟩
  | false =>
    rw [rd_F hn]
    have hno := numF_no hn
    have rc := fun W h => i_ReadNumeral x W h (by omega)
    obtain ⟨R, hR⟩ : ∃ R, rnF x = R := ⟨_, rfl⟩
    rw [hR] at rc ⊢
    obtain ⟨F, hF⟩ : ∃ F, numF x = F := ⟨_, rfl⟩
    rw [hF] at con hno
    obtain ⟨V, b⟩ := F
    dsimp only at con hno
    have CON := Lib.hid con
    have RC := Lib.hid rc
    clear con rc hn hR hF
    cases b with
    | false =>
      clear hno
      go_enter Tryz.func57, Tryz.ntmps57
      go_wp2_with fail
      refine CON.out.mono ?_
      rintro e w1 ⟨rfl, hb1⟩
      go_wp2_with fail
      refine (RC.out _ (HM.out.below hb1)).mono ?_
      rintro e w2 ⟨rfl, hb2⟩
      go_wp2_with fail
      go_ret2
      exact ⟨rfl, below_step hb1 hb2⟩
    | true =>
      have NC := Lib.hid (fun W => toB (i_numeral V W) (hno rfl))
      clear hno
      go_enter Tryz.func57, Tryz.ntmps57
      go_wp2_with fail
      refine CON.out.mono ?_
      rintro e w1 ⟨rfl, hb1⟩
      go_wp2_with fail
      refine (NC.out _).mono ?_
      rintro e w2 ⟨rfl, rfl⟩
      go_wp2_with fail
      refine (RC.out _ (HM.out.below hb1)).mono ?_
      rintro e w2 ⟨rfl, hb2⟩
      go_wp2_with fail
      go_ret2
      exact ⟨rfl, below_step hb1 hb2⟩
set_option maxRecDepth 100000 in
theorem s_ReadNumber (x : List UInt8) (w : World) (hx : x.length ≤ 9223372036854775807) : Calls Tryz.prog 58 #[.string ⟨x.toArray⟩] w fun e w' => e = .returned (.tuple #[.int .i64 (rdF x).1, .bool (rdF x).2]) ∧ Below w.heap.size w w' := by
  have con := s_digits x w hx
  cases hn : nmB x with
  | true =>
    rw [rd_T hn]
    rw [sdF_yes hn] at con
    have hb : inB (dvF 0 x : Int) 1 3999 = true := by
      obtain ⟨⟨h1, h2⟩, _⟩ := nmB_is hn
      unfold inB; simp; omega
    have CON := Lib.hid con
    have NC := Lib.hid (fun W => toB (s_numeral (dvF 0 x) W) hb)
    obtain ⟨V, hV⟩ : ∃ V : Int, (dvF 0 x : Int) = V := ⟨_, rfl⟩
    rw [hV] at CON NC ⊢
    clear con hb hn hV
    go_enter Tryz.func58, Tryz.ntmps58
    go_wp2_with fail
    refine CON.out.mono ?_
    rintro e w1 ⟨rfl, hb1⟩
    go_wp2_with fail
    refine (NC.out _).mono ?_
    rintro e w2 ⟨rfl, rfl⟩
    go_wp2_with fail
    go_ret2
    exact ⟨rfl, hb1⟩
  | false =>
    rw [rd_F hn]
    have hno := sdF_no hn
    have rc := fun W => s_ReadNumeral x W hx
    obtain ⟨R, hR⟩ : ∃ R, rnF x = R := ⟨_, rfl⟩
    rw [hR] at rc ⊢
    obtain ⟨F, hF⟩ : ∃ F, sdF x = F := ⟨_, rfl⟩
    rw [hF] at con hno
    obtain ⟨V, b⟩ := F
    dsimp only at con hno
    have CON := Lib.hid con
    have RC := Lib.hid rc
    clear con rc hn hR hF
    cases b with
    | false =>
      clear hno
      go_enter Tryz.func58, Tryz.ntmps58
      go_wp2_with fail
      refine CON.out.mono ?_
      rintro e w1 ⟨rfl, hb1⟩
      go_wp2_with fail
      refine (RC.out _).mono ?_
      rintro e w2 ⟨rfl, hb2⟩
      go_wp2_with fail
      go_ret2
      exact ⟨rfl, below_step hb1 hb2⟩
    | true =>
      have NC := Lib.hid (fun W => toB (s_numeral V W) (hno rfl))
      clear hno
      go_enter Tryz.func58, Tryz.ntmps58
      go_wp2_with fail
      refine CON.out.mono ?_
      rintro e w1 ⟨rfl, hb1⟩
      go_wp2_with fail
      refine (NC.out _).mono ?_
      rintro e w2 ⟨rfl, rfl⟩
      go_wp2_with fail
      refine (RC.out _).mono ?_
      rintro e w2 ⟨rfl, hb2⟩
      go_wp2_with fail
      go_ret2
      exact ⟨rfl, below_step hb1 hb2⟩
end Go.Proofs.YtmpgokijlikddaaGreatDoor
