import Derived.Test.YtnideigmfhhedaaGreatDoorPS
set_option linter.unusedVariables false
set_option linter.unusedSimpArgs false
namespace Go.Ab
open Go.RowKit
set_option maxRecDepth 100000 in
theorem law_NewDesk : F_laws_FnExactNewDesk = some true := by decide +kernel
end Go.Ab
