/- The law over the values of the machine (own text, printed by sup.py). -/
import Derived.Test.YtcjbdiiffpkdoaaPPersons
set_option linter.unusedVariables false
namespace Go.Ab
open Go.RowKit Go.Proofs
theorem law9 (x0 : V) (h0 : okV false [.sl 3 true [.str, .int .i64, .sl 1 false [.str]]] x0) : Con Try.prog 9 [x0] (.v (.bool true)) := by
  obtain ⟨a0, rfl, o0⟩ := (dec_one fun _ h => (dec_sl dec_Person) h) x0 h0
  exact con_laws_FnExactValidPersons (law_ValidPersons a0 o0)
end Go.Ab
