/- Closed facts of a row, each by the kernel on its own. No condition. -/
import Derived.Test.YtelppggliieniaaGreatDoorSeat
namespace Go.Proofs.YtelppggliieniaaGreatDoor.fnWords
theorem r_wf : Rows.fnWordsRow.wf (OpenSpec.ofChange Rows.fnWordsSpec) = true := by kernel_rfl
theorem r_ip : (Rows.fnWordsRow.inPlace == Tryz.prog.inPlace 7) = true := by kernel_rfl
theorem r_uf : (Rows.fnWordsRow.unfollowed == Tryz.prog.unfollowed 7) = true := by kernel_rfl
theorem r_rc : (Rows.fnWordsRow.recurses == Tryz.prog.recurses 7) = true := by kernel_rfl
theorem r_vn : (Rows.fnWordsRow.named == Tryz.prog.varsNamed 7) = true := by kernel_rfl
theorem r_gb : false = Rows.fnWordsRow.goesBy Tryz.prog := by kernel_rfl
theorem r_lk : true = Tryz.prog.looks [] := by kernel_rfl
set_option maxHeartbeats 1000000 in
theorem closed : joinedFacts Tryz.prog 7 Tryz.f7 Rows.fnWordsSpec Rows.fnWordsRow = true := by
  unfold joinedFacts
  refine and_i (and_i (and_i (and_i (and_i (and_i (and_i (and_i (and_i (and_i (and_i (and_i (and_i (and_i (and_i (and_i (and_i (and_i (and_i (and_i (and_i (and_i (and_i (and_i (and_i (and_i (and_i (and_i (and_i (and_i (and_i r_wf sf_laid) sf_maps) ?_) ?_) ?_) sf_stops) ?_) sf_knobs) r_ip) r_uf) r_rc) r_vn) ?_) ?_) ?_) ?_) ?_) ?_) ?_) ?_) ?_) ?_) ?_) ?_) ?_) ?_) ?_) ?_) ?_) ?_) ?_
  all_goals (as_aux_lemma => kernel_rfl)
end Go.Proofs.YtelppggliieniaaGreatDoor.fnWords
