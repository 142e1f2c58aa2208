/- Closed facts of a row, each by the kernel on its own. No condition. -/
import Derived.Test.YtmpgokijlikddaaGreatDoorSeat
namespace Go.Proofs.YtmpgokijlikddaaGreatDoor.fnNumerals
theorem r_wf : Rows.fnNumeralsRow.wf (OpenSpec.ofChange Rows.fnNumeralsSpec) = true := by kernel_rfl
theorem r_ip : (Rows.fnNumeralsRow.inPlace == Tryz.prog.inPlace 6) = true := by kernel_rfl
theorem r_uf : (Rows.fnNumeralsRow.unfollowed == Tryz.prog.unfollowed 6) = true := by kernel_rfl
theorem r_rc : (Rows.fnNumeralsRow.recurses == Tryz.prog.recurses 6) = true := by kernel_rfl
theorem r_vn : (Rows.fnNumeralsRow.named == Tryz.prog.varsNamed 6) = true := by kernel_rfl
theorem r_gb : false = Rows.fnNumeralsRow.goesBy Tryz.prog := by kernel_rfl
theorem r_lk : true = Tryz.prog.looks [] := by kernel_rfl
set_option maxHeartbeats 1000000 in
theorem closed : joinedFacts Tryz.prog 6 Tryz.f6 Rows.fnNumeralsSpec Rows.fnNumeralsRow = true := by
  unfold joinedFacts
  refine and_i (and_i (and_i (and_i (and_i (and_i (and_i (and_i (and_i (and_i (and_i (and_i (and_i (and_i (and_i (and_i (and_i (and_i (and_i (and_i (and_i (and_i (and_i (and_i (and_i (and_i (and_i (and_i (and_i (and_i (and_i r_wf sf_laid) sf_maps) ?_) ?_) ?_) sf_stops) ?_) sf_knobs) r_ip) r_uf) r_rc) r_vn) ?_) ?_) ?_) ?_) ?_) ?_) ?_) ?_) ?_) ?_) ?_) ?_) ?_) ?_) ?_) ?_) ?_) ?_) ?_
  all_goals (as_aux_lemma => kernel_rfl)
end Go.Proofs.YtmpgokijlikddaaGreatDoor.fnNumerals
