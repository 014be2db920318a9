/- The names of the commands (own text). -/
import Derived.Test.YtcncimahmacpoaaGreatDoorPS
set_option linter.unusedVariables false
namespace Go.Ab
open Go.RowKit
theorem core_CommandNames : ∃ w, F_spec_CommandNames = some w ∧ F_cmdNames = some w ∧ (SmL (fun _ => True)) w :=
  ⟨cmdAll, rfl, rfl, by show (23 : Int) ≤ 1048576; omega, fun _ _ => trivial⟩
end Go.Ab
