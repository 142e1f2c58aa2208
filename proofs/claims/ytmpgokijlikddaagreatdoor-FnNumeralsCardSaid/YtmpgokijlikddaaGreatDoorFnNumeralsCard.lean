/- A number is read from its usual and from its old form, and from its word. No condition. -/
import Derived.Test.YtmpgokijlikddaaGreatDoorRows
import Derived.Test.YtmpgokijlikddaaGreatDoorWFnNumerals
import Derived.Test.YtmpgokijlikddaaGreatDoorLaid
import Derived.Test.YtmpgokijlikddaaGreatDoorCards
import Derived.Test.YtmpgokijlikddaaGreatDoorTie
import Derived.SevenTiedAt
import Derived.Lay
import Derived.Test.YtmpgokijlikddaaGreatDoorSeat
import Derived.Test.YtmpgokijlikddaaGreatDoorQFnNumerals
import Derived.LaidSub
import Derived.Lib.LaidTab
import Derived.Stop.LaidErr
import Derived.WalkKit
import Derived.ProofKit
import Derived.OpenShut
import Derived.ShutString
import Derived.ChangeSame
import Derived.JoinedOf
import Derived.JoinedAt
import Derived.RowKit3
import Derived.Lib.SmallJoins
import Derived.Deep.Slices
import Derived.Test.YtmpgokijlikddaaGreatDoorMem
namespace Go.Proofs.YtmpgokijlikddaaGreatDoor.fnNumerals
open Go.ChangeShapes Go.WideShapes Go.ChangeAt Go.RowKit Go.Joins
open Go.ChangeMaps (open_string shut_string)
set_option linter.unusedVariables false
theorem own : ownKnob Tryz.prog.godebug = none := by kernel_rfl
theorem cells_code : Tryz.prog.cellsOf 5 = 1 := by kernel_rfl
set_option maxRecDepth 100000 in
theorem lifted (os : Os) (started : os.Started) (H : Type) (enc : TypeId × Value → H) :
    ReturnsInHanded {} Tryz.checked os 6 .any (fun w args => (Rows.fnNumeralsSpec.pre enc Tryz.prog Tryz.f6 [] false w args ∧ laidMetH Tryz.prog Rows.fnNumeralsRow.laid w) ∧ sizedMet enc Tryz.prog Tryz.f6 (OpenSpec.ofChange Rows.fnNumeralsSpec) false w args)
      (Rows.fnNumeralsSpec.post enc Tryz.prog Tryz.f6 false true false false) := by
  refine ret_laid_shaped (C := Tryz.checked) (X := fun w _ => laidMetH Tryz.prog Rows.fnNumeralsRow.laid w) (fun _ _ _ hh h => h.of_heap hh) own started (by kernel_rfl) Tryz.func6
    (ChangeSpec.witness_shaped (enc := enc) (C := Tryz.checked) (os := os) (X := fun w _ => laidMetH Tryz.prog Rows.fnNumeralsRow.laid w) false (World.laidAll Tryz.prog os Rows.fnNumeralsRow.laid) #[.slice none 0 0] 8 (World.laidAll_os _ _ _)
      (World.shaped_of_ZipB (by kernel_rfl) (by kernel_rfl)) (by kernel_rfl) (by kernel_rfl) (by kernel_rfl)
      (by rw [MakeChecks.laidMetH_plain _ _ _ (by kernel_rfl)]; exact laidMet_laidAll _ (by kernel_rfl) (by kernel_rfl))) ?_
  intro W base args ds gs before hval0 hW hcnd hsz hL hsh _
  have hnum : NumOk W := by
    have h0 := hL
    rw [MakeChecks.laidMetH_plain _ _ _ (by kernel_rfl)] at h0
    have hT : Tab W := by
      have h := laidMet.filter (fun x => x.1 == "internal/strconv.uint64pow10") h0
      have e : Rows.fnNumeralsRow.laid.filter (fun x => x.1 == "internal/strconv.uint64pow10") = [("internal/strconv.uint64pow10", Lib.tabData .u64 Lib.pow10Tab)] := by kernel_rfl
      rw [e] at h
      exact Lib.tabIs_of_head (g := 1) (n := 20) (by kernel_rfl) (by kernel_rfl) Tryz.underlying257 Tryz.underlying202 (by kernel_rfl) (by kernel_rfl) h
    have hstar : "*" ++ "errors.errorString" = "*errors.errorString" := by decide
    have hrow : ∀ u, Tryz.prog.typeName? 3 u = some "*errors.errorString" → u = 291 := fun u hu => typeName_ptr_named (nm := "errors.errorString") (by rw [hstar]; kernel_rfl) (by kernel_rfl) (by decide) u (by rw [hstar]; exact hu)
    have err : ∀ (n : String) (g : Nat) (text : List UInt8), Tryz.prog.globalNamed n = some g → (Tryz.prog.globals[g]?).map (·.type) = some 139 → laidMet Tryz.prog [(n, .iface "*errors.errorString" (.ptr (.agg [.lit (.string text)])))] W → ErrAt W g := fun n g text hg ht hl => by
      obtain ⟨a0, s0, hv0, -, -, -⟩ := laid_sentinel hl hg ht Tryz.underlying139 hrow Tryz.underlying291 Tryz.underlying293 rfl rfl Tryz.underlying9 (by kernel_rfl) (by kernel_rfl)
      exact ⟨_, by have h0 := World.var?_cell hg hv0 0; simpa using h0, .inr ⟨_, _, rfl⟩⟩
    refine ⟨hT, err "strconv.ErrSyntax" 4 [105, 110, 118, 97, 108, 105, 100, 32, 115, 121, 110, 116, 97, 120] (by kernel_rfl) (by kernel_rfl) ?_, err "strconv.ErrRange" 5 [118, 97, 108, 117, 101, 32, 111, 117, 116, 32, 111, 102, 32, 114, 97, 110, 103, 101] (by kernel_rfl) (by kernel_rfl) ?_⟩
    · have h := laidMet.filter (fun x => x.1 == "strconv.ErrSyntax") h0
      have e : Rows.fnNumeralsRow.laid.filter (fun x => x.1 == "strconv.ErrSyntax") = [("strconv.ErrSyntax", .iface "*errors.errorString" (.ptr (.agg [.lit (.string [105, 110, 118, 97, 108, 105, 100, 32, 115, 121, 110, 116, 97, 120])])))] := by kernel_rfl
      rw [e] at h
      exact h
    · have h := laidMet.filter (fun x => x.1 == "strconv.ErrRange") h0
      have e : Rows.fnNumeralsRow.laid.filter (fun x => x.1 == "strconv.ErrRange") = [("strconv.ErrRange", .iface "*errors.errorString" (.ptr (.agg [.lit (.string [118, 97, 108, 117, 101, 32, 111, 117, 116, 32, 111, 102, 32, 114, 97, 110, 103, 101])])))] := by kernel_rfl
      rw [e] at h
      exact h
  have hval : ∀ (j : Nat) t v, Tryz.f6.params[j]? = some t → args[j]? = some v → Value.okWide Tryz.prog W .any base t v := hval0
  have hW' := hW
  obtain ⟨p, q, hA0, hV, rfl, hfz, hnd⟩ := hW
  have hA : DataW.TrodAll enc Tryz.prog W 0 (fun _ => true) true Tryz.f6.params.toList args.toList ds p := hA0
  rw [Tryz.params6] at hA hval
  obtain ⟨v0, vs0, d0, ds0, p0, q0, hargs, rfl, rfl, h0, r0⟩ := trodAll_cons hA
  obtain ⟨rfl, rfl, rfl⟩ := trodAll_nil r0
  obtain rfl : args = #[v0] := by cases args; simp_all
  obtain ⟨rfl, rfl⟩ := trodVars_none hV
  obtain ⟨a0, n0, c0, rfl⟩ := okWide_slice Tryz.underlying22 (hval 0 22 v0 rfl rfl)
  obtain ⟨hn0, xs0, hx0, hb0⟩ := opened_code Tryz.underlying22 Tryz.underlying5 cells_code h0
  clear hA0 hval0
  have hlt := hW'.lt
  refine (walk a0 n0 c0 xs0 hn0 hx0 hb0 W hsh hnum).mono fun e W' ⟨he, hg⟩ => ?_
  subst he
  exact ⟨_, rfl, post_of_below (pa := _) (pv := []) hW' (fun _ _ _ => (trodAll_cons_mk (shut_bool Tryz.underlying4 _) trodAll_mk0)) (fun sp hsp => (trodAll_cons_mk (again_of_below (by kernel_rfl) (by kernel_rfl) (of_decide_eq_true (by kernel_rfl)) h0 hg (fun x hx => hlt x (by simp [hx])) (fun x hx => hsp x (by simp [hx]))) trodAll_mk0)) (fun _ _ => rfl) rfl
    hg (ok_one (by kernel_rfl) rfl (okWide_bool_mk Tryz.underlying4 _))⟩
theorem over : Rows.fnNumeralsRow.holds Tryz.pinned (OpenSpec.ofChange Rows.fnNumeralsSpec) :=
  OpenClaim.holds_of_wide 6 Tryz.f6 rfl rfl rfl rfl rfl rfl rfl ⟨rfl, rfl, rfl, rfl, rfl⟩ rfl rfl rfl rfl rfl (by as_aux_lemma => kernel_rfl) Tryz.func6 closed
    (of_decide_eq_true (by kernel_rfl)) (by unfold Func.isWrapper; first | (rw [if_pos (by decide +kernel)]; kernel_rfl) | (rw [if_neg (by decide +kernel)]; exact ⟨rfl, rfl⟩))
    (fun os started H enc _ => lifted os started H enc)
theorem proved : Rows.FnNumeralsCardSaid :=
  Claim7.holds_tied_plain_at .later [] [.data, .data, .data, .data, .sentinel, .sentinel, .pinned] true (true, "71e5c91afdd5262c00d77f27ba12e289d70e0652b0f10beef4a9b727ed50c8b4") true
    over (fun _ h => by cases h) (by kernel_rfl) (fun _ h => by cases h) fnNumerals_row_tie rfl ⟨rfl, rfl⟩ (by kernel_rfl) rfl
    (fun f fn hf hfn => by
      obtain rfl : f = 6 := Option.some.inj ((show Tryz.prog.funcNamed Rows.fnNumeralsRow.func = some 6 by kernel_rfl).symm.trans hf) |>.symm
      obtain rfl : fn = Tryz.f6 := (Option.some.inj (Tryz.func6.symm.trans hfn)).symm
      exact ⟨r_lk, fun j t ht => by
        rw [Tryz.params6] at ht
        have hm : t ∈ [22] := by simpa using Array.mem_of_getElem? ht
        have hall : ([22].all fun u => !Tryz.prog.wantsStandIn u) = true := by kernel_rfl
        exact (show Tryz.prog.wantsStandIn t = false by simpa using List.all_eq_true.1 hall t hm)⟩)
    r_gb
#print axioms proved
end Go.Proofs.YtmpgokijlikddaaGreatDoor.fnNumerals
