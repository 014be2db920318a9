/- The closed facts of the row of CommandNames, one after the other (own text). -/
import Derived.Test.YtcncimahmacpoaaGreatDoorRows
import Derived.WalkKit
import Derived.JoinedOf
import Derived.KernelRfl
set_option maxHeartbeats 40000000
namespace Go.Proofs.YtcncimahmacpoaaGreatDoor.fnExactCommandNames
theorem and2 {a b : Bool} (h : a = true) (h' : b = true) : (a && b) = true := by rw [h, h']; rfl
theorem closed : joinedFacts Tryz.pinned.checked.prog 3 Tryz.f3 Rows.fnExactCommandNamesSpec Rows.fnExactCommandNamesRow = true := by
  unfold joinedFacts
  exact (and2 (and2 (and2 (and2 (and2 (and2 (and2 (and2 (and2 (and2 (and2 (and2 (and2 (and2 (and2 (and2 (and2 (and2 (and2 (and2 (and2 (and2 (and2 (and2 (and2 (and2 (and2 (and2 (and2 (and2 (and2 (by as_aux_lemma => kernel_rfl)
 (by as_aux_lemma => kernel_rfl))
 (by as_aux_lemma => kernel_rfl))
 (by as_aux_lemma => kernel_rfl))
 (by as_aux_lemma => kernel_rfl))
 (by as_aux_lemma => kernel_rfl))
 (by as_aux_lemma => kernel_rfl))
 (by as_aux_lemma => kernel_rfl))
 (by as_aux_lemma => kernel_rfl))
 (by as_aux_lemma => kernel_rfl))
 (by as_aux_lemma => kernel_rfl))
 (by as_aux_lemma => kernel_rfl))
 (by as_aux_lemma => kernel_rfl))
 (by as_aux_lemma => kernel_rfl))
 (by as_aux_lemma => kernel_rfl))
 (by as_aux_lemma => kernel_rfl))
 (by as_aux_lemma => kernel_rfl))
 (by as_aux_lemma => kernel_rfl))
 (by as_aux_lemma => kernel_rfl))
 (by as_aux_lemma => kernel_rfl))
 (by as_aux_lemma => kernel_rfl))
 (by as_aux_lemma => kernel_rfl))
 (by as_aux_lemma => kernel_rfl))
 (by as_aux_lemma => kernel_rfl))
 (by as_aux_lemma => kernel_rfl))
 (by as_aux_lemma => kernel_rfl))
 (by as_aux_lemma => kernel_rfl))
 (by as_aux_lemma => kernel_rfl))
 (by as_aux_lemma => kernel_rfl))
 (by as_aux_lemma => kernel_rfl))
 (by as_aux_lemma => kernel_rfl))
 (by as_aux_lemma => kernel_rfl))
end Go.Proofs.YtcncimahmacpoaaGreatDoor.fnExactCommandNames

