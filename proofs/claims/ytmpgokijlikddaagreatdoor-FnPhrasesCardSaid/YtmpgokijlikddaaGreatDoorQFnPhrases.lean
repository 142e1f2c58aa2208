/- Closed facts of a row, each by the kernel on its own. No condition. -/
import Derived.Test.YtmpgokijlikddaaGreatDoorSeat
namespace Go.Proofs.YtmpgokijlikddaaGreatDoor.fnPhrases
theorem r_wf : Rows.fnPhrasesRow.wf (OpenSpec.ofChange Rows.fnPhrasesSpec) = true := by kernel_rfl
theorem r_ip : (Rows.fnPhrasesRow.inPlace == Tryz.prog.inPlace 5) = true := by kernel_rfl
theorem r_uf : (Rows.fnPhrasesRow.unfollowed == Tryz.prog.unfollowed 5) = true := by kernel_rfl
theorem r_rc : (Rows.fnPhrasesRow.recurses == Tryz.prog.recurses 5) = true := by kernel_rfl
theorem r_vn : (Rows.fnPhrasesRow.named == Tryz.prog.varsNamed 5) = true := by kernel_rfl
theorem r_gb : false = Rows.fnPhrasesRow.goesBy Tryz.prog := by kernel_rfl
theorem r_lk : true = Tryz.prog.looks [] := by kernel_rfl
set_option maxHeartbeats 1000000 in
theorem closed : joinedFacts Tryz.prog 5 Tryz.f5 Rows.fnPhrasesSpec Rows.fnPhrasesRow = true := by
  unfold joinedFacts
  refine and_i (and_i (and_i (and_i (and_i (and_i (and_i (and_i (and_i (and_i (and_i (and_i (and_i (and_i (and_i (and_i (and_i (and_i (and_i (and_i (and_i (and_i (and_i (and_i (and_i (and_i (and_i (and_i (and_i (and_i (and_i r_wf sf_laid) sf_maps) ?_) ?_) ?_) sf_stops) ?_) sf_knobs) r_ip) r_uf) r_rc) r_vn) ?_) ?_) ?_) ?_) ?_) ?_) ?_) ?_) ?_) ?_) ?_) ?_) ?_) ?_) ?_) ?_) ?_) ?_) ?_
  all_goals (as_aux_lemma => kernel_rfl)
end Go.Proofs.YtmpgokijlikddaaGreatDoor.fnPhrases
