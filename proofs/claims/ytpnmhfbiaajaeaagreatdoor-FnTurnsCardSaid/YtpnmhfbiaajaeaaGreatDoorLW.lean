/- The law over the values of the machine (own text, printed by sup.py). -/
import Derived.Test.YtpnmhfbiaajaeaaGreatDoorPZ
set_option linter.unusedVariables false
namespace Go.Ab
open Go.RowKit Go.Proofs

theorem law3 (x0 : V) (h0 : okV false [.sl 1 false [.int .u8]] x0) : Con Tryz.prog 3 [x0] (.v (.bool true)) := by
  obtain ⟨a0, rfl, o0⟩ := (dec_one fun _ h => (dec_sl (dec_one fun _ h => dec_u8 h)) h) x0 h0
  exact con_laws_FnTurns (law_FnTurns a0 o0)
end Go.Ab
