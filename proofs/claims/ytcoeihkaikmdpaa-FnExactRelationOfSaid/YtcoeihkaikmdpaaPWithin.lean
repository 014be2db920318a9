/- Numbers within bounds (own text). -/
import Derived.Test.YtcoeihkaikmdpaaPNames
set_option linter.unusedVariables false
set_option linter.unusedSimpArgs false
namespace Go.Ab
open Go.RowKit
theorem l00In_eq (a b c : Int) : F_spec_l00In a b c = some (decide (b ≤ a ∧ a ≤ c)) := by
  unfold F_spec_l00In
  by_cases h : b ≤ a <;> simp [h]
theorem within_eq (a b c : Int) : F_impl_within a b c = some (decide (b ≤ a ∧ a ≤ c)) := by
  unfold F_impl_within
  by_cases h : b ≤ a <;> simp [h]
end Go.Ab
