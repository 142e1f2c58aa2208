/- The program's NormalWord returns what the reference's returns, for all texts. No condition. -/
import Derived.Test.YtelppggliieniaaDoorRows
import Derived.Test.YtelppggliieniaaDoorWFnExactNormalWord
import Derived.Test.YtelppggliieniaaDoorLaid
import Derived.Test.YtelppggliieniaaDoorCards
import Derived.Test.YtelppggliieniaaDoorTie
import Derived.SevenTiedAt
import Derived.Lay
import Derived.Test.YtelppggliieniaaDoorSeat
import Derived.WalkKit
import Derived.ProofKit
import Derived.OpenShut
import Derived.ShutString
import Derived.ChangeSame
import Derived.JoinedOf
import Derived.JoinedAt
import Derived.RowKit3
import Derived.Lib.SmallJoins
import Derived.Deep.Slices
namespace Go.Proofs.YtelppggliieniaaDoor.fnExactNormalWord
open Go.ChangeShapes Go.WideShapes Go.ChangeAt Go.RowKit Go.Joins
open Go.ChangeMaps (open_string shut_string)
set_option linter.unusedVariables false
theorem own : ownKnob Tryd.prog.godebug = none := by kernel_rfl
set_option maxRecDepth 100000 in
theorem lifted (os : Os) (started : os.Started) (H : Type) (enc : TypeId × Value → H) :
    ReturnsInHanded {} Tryd.checked os 3 .any (fun w args => (Rows.fnExactNormalWordSpec.pre enc Tryd.prog Tryd.f3 [] false w args ∧ laidMetH Tryd.prog Rows.fnExactNormalWordRow.laid w) ∧ sizedMet enc Tryd.prog Tryd.f3 (OpenSpec.ofChange Rows.fnExactNormalWordSpec) false w args)
      (Rows.fnExactNormalWordSpec.post enc Tryd.prog Tryd.f3 false true false false) := by
  refine ret_laid_shaped (C := Tryd.checked) (X := fun w _ => laidMetH Tryd.prog Rows.fnExactNormalWordRow.laid w) (fun _ _ _ hh h => h.of_heap hh) own started (by kernel_rfl) Tryd.func3
    (ChangeSpec.witness_shaped (enc := enc) (C := Tryd.checked) (os := os) (X := fun w _ => laidMetH Tryd.prog Rows.fnExactNormalWordRow.laid w) false (World.laidAll Tryd.prog os Rows.fnExactNormalWordRow.laid) #[.string ⟨#[]⟩] 8 (World.laidAll_os _ _ _)
      (World.shaped_of_ZipB (by kernel_rfl) (by kernel_rfl)) (by kernel_rfl) (by kernel_rfl) (by kernel_rfl)
      (by rw [MakeChecks.laidMetH_plain _ _ _ (by kernel_rfl)]; exact laidMet_laidAll _ (by kernel_rfl) (by kernel_rfl))) ?_
  intro W base args ds gs before hval0 hW hcnd hsz hL hsh _
  have hval : ∀ (j : Nat) t v, Tryd.f3.params[j]? = some t → args[j]? = some v → Value.okWide Tryd.prog W .any base t v := hval0
  have hW' := hW
  obtain ⟨p, q, hA0, hV, rfl, hfz, hnd⟩ := hW
  have hA : DataW.TrodAll enc Tryd.prog W 0 (fun _ => true) true Tryd.f3.params.toList args.toList ds p := hA0
  rw [Tryd.params3] at hA hval
  obtain ⟨v0, vs0, d0, ds0, p0, q0, hargs, rfl, rfl, h0, r0⟩ := trodAll_cons hA
  obtain ⟨rfl, rfl, rfl⟩ := trodAll_nil r0
  obtain rfl : args = #[v0] := by cases args; simp_all
  obtain ⟨rfl, rfl⟩ := trodVars_none hV
  obtain ⟨s0, rfl, rfl, rfl, w0⟩ := open_string Tryd.underlying9 (hval 0 9 v0 rfl rfl) h0
  clear hA0 hval0
  simp only [List.append_nil] at hW'
  refine (walk s0 w0 W hsh).mono fun e W' ⟨he, hg⟩ => ?_
  subst he
  exact ⟨_, rfl, post_of_below (pa := []) (pv := []) hW' (fun _ _ _ => (trodAll_cons_mk (shut_bool Tryd.underlying4 _) trodAll_mk0)) (fun sp _ => (trodAll_cons_mk (shut_string Tryd.underlying9 w0) trodAll_mk0)) (fun _ _ => rfl) rfl
    hg (ok_one (by kernel_rfl) rfl (okWide_bool_mk Tryd.underlying4 _))⟩
theorem r_wf : Rows.fnExactNormalWordRow.wf (OpenSpec.ofChange Rows.fnExactNormalWordSpec) = true := by kernel_rfl
theorem r_ip : (Rows.fnExactNormalWordRow.inPlace == Tryd.prog.inPlace 3) = true := by kernel_rfl
theorem r_uf : (Rows.fnExactNormalWordRow.unfollowed == Tryd.prog.unfollowed 3) = true := by kernel_rfl
theorem r_rc : (Rows.fnExactNormalWordRow.recurses == Tryd.prog.recurses 3) = true := by kernel_rfl
theorem r_vn : (Rows.fnExactNormalWordRow.named == Tryd.prog.varsNamed 3) = true := by kernel_rfl
theorem r_gb : false = Rows.fnExactNormalWordRow.goesBy Tryd.prog := by kernel_rfl
theorem r_lk : true = Tryd.prog.looks [] := by kernel_rfl
theorem closed : joinedFacts Tryd.prog 3 Tryd.f3 Rows.fnExactNormalWordSpec Rows.fnExactNormalWordRow = true := by
  unfold joinedFacts
  repeat' with_reducible apply and_i
  all_goals first
    | with_reducible exact r_wf
    | with_reducible exact sf_laid
    | with_reducible exact sf_maps
    | with_reducible exact sf_stops
    | with_reducible exact sf_knobs
    | with_reducible exact r_ip
    | with_reducible exact r_uf
    | with_reducible exact r_rc
    | with_reducible exact r_vn
    | (as_aux_lemma => kernel_rfl)
theorem over : Rows.fnExactNormalWordRow.holds Tryd.pinned (OpenSpec.ofChange Rows.fnExactNormalWordSpec) :=
  OpenClaim.holds_of_wide 3 Tryd.f3 rfl rfl rfl rfl rfl rfl rfl ⟨rfl, rfl, rfl, rfl, rfl⟩ rfl rfl rfl rfl rfl (by as_aux_lemma => kernel_rfl) Tryd.func3 closed
    (of_decide_eq_true (by kernel_rfl)) (by unfold Func.isWrapper; first | (rw [if_pos (by decide +kernel)]; kernel_rfl) | (rw [if_neg (by decide +kernel)]; exact ⟨rfl, rfl⟩))
    (fun os started H enc _ => lifted os started H enc)
theorem proved : Rows.FnExactNormalWordCardSaid :=
  Claim7.holds_tied_plain_at .later [] [.data, .pinned] true (true, "9a353ab3d135f917e556a1255dd0ccc14f6dd3303240ff4e032b533983ffb9df") true
    over (fun _ h => by cases h) (by kernel_rfl) (fun _ h => by cases h) fnExactNormalWord_row_tie rfl ⟨rfl, rfl⟩ (by kernel_rfl) rfl
    (fun f fn hf hfn => by
      obtain rfl : f = 3 := Option.some.inj ((show Tryd.prog.funcNamed Rows.fnExactNormalWordRow.func = some 3 by kernel_rfl).symm.trans hf) |>.symm
      obtain rfl : fn = Tryd.f3 := (Option.some.inj (Tryd.func3.symm.trans hfn)).symm
      exact ⟨r_lk, fun j t ht => by
        rw [Tryd.params3] at ht
        have hm : t ∈ [9] := by simpa using Array.mem_of_getElem? ht
        have hall : ([9].all fun u => !Tryd.prog.wantsStandIn u) = true := by kernel_rfl
        exact (show Tryd.prog.wantsStandIn t = false by simpa using List.all_eq_true.1 hall t hm)⟩)
    r_gb
#print axioms proved
end Go.Proofs.YtelppggliieniaaDoor.fnExactNormalWord
