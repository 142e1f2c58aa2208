/- Closed facts of a row, each by the kernel on its own. No condition. -/
import Derived.Test.YtmpgokijlikddaaGreatDoorSeat
namespace Go.Proofs.YtmpgokijlikddaaGreatDoor.fnReignLists
theorem r_wf : Rows.fnReignListsRow.wf (OpenSpec.ofChange Rows.fnReignListsSpec) = true := by kernel_rfl
theorem r_ip : (Rows.fnReignListsRow.inPlace == Tryz.prog.inPlace 3) = true := by kernel_rfl
theorem r_uf : (Rows.fnReignListsRow.unfollowed == Tryz.prog.unfollowed 3) = true := by kernel_rfl
theorem r_rc : (Rows.fnReignListsRow.recurses == Tryz.prog.recurses 3) = true := by kernel_rfl
theorem r_vn : (Rows.fnReignListsRow.named == Tryz.prog.varsNamed 3) = true := by kernel_rfl
theorem r_gb : false = Rows.fnReignListsRow.goesBy Tryz.prog := by kernel_rfl
theorem r_lk : true = Tryz.prog.looks [] := by kernel_rfl
set_option maxHeartbeats 1000000 in
theorem closed : joinedFacts Tryz.prog 3 Tryz.f3 Rows.fnReignListsSpec Rows.fnReignListsRow = true := by
  unfold joinedFacts
  refine and_i (and_i (and_i (and_i (and_i (and_i (and_i (and_i (and_i (and_i (and_i (and_i (and_i (and_i (and_i (and_i (and_i (and_i (and_i (and_i (and_i (and_i (and_i (and_i (and_i (and_i (and_i (and_i (and_i (and_i (and_i r_wf sf_laid) sf_maps) ?_) ?_) ?_) sf_stops) ?_) sf_knobs) r_ip) r_uf) r_rc) r_vn) ?_) ?_) ?_) ?_) ?_) ?_) ?_) ?_) ?_) ?_) ?_) ?_) ?_) ?_) ?_) ?_) ?_) ?_) ?_
  all_goals (as_aux_lemma => kernel_rfl)
end Go.Proofs.YtmpgokijlikddaaGreatDoor.fnReignLists
