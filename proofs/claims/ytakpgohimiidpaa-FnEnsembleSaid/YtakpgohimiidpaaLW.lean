/- The law over the values of the machine (own text, printed by sup.py). -/
import Derived.Test.YtakpgohimiidpaaPZ
set_option linter.unusedVariables false
namespace Go.Ab
open Go.RowKit Go.Proofs

theorem law3 (x0 : V) (x1 : V) (h0 : okV false [.sl 1 false [.int .u8]] x0) (h1 : okV false [.sl 1 false [.int .u8]] x1) : Con Try.prog 3 [x0, x1] (.v (.bool true)) := by
  obtain ⟨a0, rfl, o0⟩ := (dec_one fun _ h => (dec_sl (dec_one fun _ h => dec_u8 h)) h) x0 h0
  obtain ⟨a1, rfl, o1⟩ := (dec_one fun _ h => (dec_sl (dec_one fun _ h => dec_u8 h)) h) x1 h1
  exact con_laws_FnEnsemble (law_FnEnsemble a0 a1 o0 o1)
end Go.Ab
