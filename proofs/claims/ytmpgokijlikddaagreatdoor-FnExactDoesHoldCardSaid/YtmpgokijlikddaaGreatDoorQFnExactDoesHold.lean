/- Closed facts of a row, each by the kernel on its own. No condition. -/
import Derived.Test.YtmpgokijlikddaaGreatDoorSeat
namespace Go.Proofs.YtmpgokijlikddaaGreatDoor.fnExactDoesHold
theorem r_wf : Rows.fnExactDoesHoldRow.wf (OpenSpec.ofChange Rows.fnExactDoesHoldSpec) = true := by kernel_rfl
theorem r_ip : (Rows.fnExactDoesHoldRow.inPlace == Tryz.prog.inPlace 4) = true := by kernel_rfl
theorem r_uf : (Rows.fnExactDoesHoldRow.unfollowed == Tryz.prog.unfollowed 4) = true := by kernel_rfl
theorem r_rc : (Rows.fnExactDoesHoldRow.recurses == Tryz.prog.recurses 4) = true := by kernel_rfl
theorem r_vn : (Rows.fnExactDoesHoldRow.named == Tryz.prog.varsNamed 4) = true := by kernel_rfl
theorem r_gb : false = Rows.fnExactDoesHoldRow.goesBy Tryz.prog := by kernel_rfl
theorem r_lk : true = Tryz.prog.looks [] := by kernel_rfl
set_option maxHeartbeats 1000000 in
theorem closed : joinedFacts Tryz.prog 4 Tryz.f4 Rows.fnExactDoesHoldSpec Rows.fnExactDoesHoldRow = true := by
  unfold joinedFacts
  refine and_i (and_i (and_i (and_i (and_i (and_i (and_i (and_i (and_i (and_i (and_i (and_i (and_i (and_i (and_i (and_i (and_i (and_i (and_i (and_i (and_i (and_i (and_i (and_i (and_i (and_i (and_i (and_i (and_i (and_i (and_i r_wf sf_laid) sf_maps) ?_) ?_) ?_) sf_stops) ?_) sf_knobs) r_ip) r_uf) r_rc) r_vn) ?_) ?_) ?_) ?_) ?_) ?_) ?_) ?_) ?_) ?_) ?_) ?_) ?_) ?_) ?_) ?_) ?_) ?_) ?_
  all_goals (as_aux_lemma => kernel_rfl)
end Go.Proofs.YtmpgokijlikddaaGreatDoor.fnExactDoesHold
