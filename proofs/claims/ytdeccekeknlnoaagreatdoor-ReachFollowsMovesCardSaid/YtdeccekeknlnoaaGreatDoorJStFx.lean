/- Chapter 38: the closed facts of the row of ReachFollowsMoves, one by one. -/
import Derived.Test.YtdeccekeknlnoaaGreatDoorRows
import Derived.JoinedOf
namespace Go.Proofs.YtdeccekeknlnoaaGreatDoor
open Go
namespace ReachFollowsMovesEnd
set_option maxRecDepth 100000 in
set_option maxHeartbeats 16000000 in
theorem closed : joinedFacts Tryz.prog 4 Tryz.f4 Rows.reachFollowsMovesSpec Rows.reachFollowsMovesRow = true := by
  unfold joinedFacts
  simp only [Bool.and_eq_true]
  repeat' apply And.intro
  all_goals (as_aux_lemma => kernel_rfl)
set_option maxRecDepth 100000 in
set_option maxHeartbeats 16000000 in
theorem inst : Tryz.f4.isInstance Tryz.prog Rows.reachFollowsMovesRow.origin Rows.reachFollowsMovesRow.targs := of_decide_eq_true (by kernel_rfl)
set_option maxRecDepth 100000 in
set_option maxHeartbeats 16000000 in
theorem wrapr : Tryz.f4.isWrapper Tryz.prog Rows.reachFollowsMovesRow.wrapper Rows.reachFollowsMovesRow.mainSum := by unfold Func.isWrapper; first | (rw [if_pos (by decide +kernel)]; kernel_rfl) | (rw [if_neg (by decide +kernel)]; exact ⟨rfl, rfl⟩)
end ReachFollowsMovesEnd
end Go.Proofs.YtdeccekeknlnoaaGreatDoor
