/- The law over the values of the machine (own text, printed by sup.py). -/
import Derived.Test.YtnideigmfhhedaaGreatDoorPND
set_option linter.unusedVariables false
namespace Go.Ab
open Go.RowKit Go.Proofs

theorem law3   : Con Tryz.prog 3 [] (.v (.bool true)) := by
  exact con_laws_FnExactNewDesk (law_NewDesk  )
end Go.Ab
