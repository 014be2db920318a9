/- The law over the values of the machine (own text, printed by sup.py). -/
import Derived.Test.YtdedhldojkdceaaGreatPZ
set_option linter.unusedVariables false
namespace Go.Ab
open Go.RowKit Go.Proofs
theorem law_ValidDesk (a0 : TDesk) (o0 : OkDesk a0) : F_laws_FnExactValidDesk a0 = some true := by
  unfold F_laws_FnExactValidDesk
  obtain ⟨r0, z0, y0, s0⟩ := sz_Desk a0 o0 1048576 (by omega) (by omega)
  rw [z0]
  rw [Option.bind_some, bif_dec]
  split
  · rfl
  have s0 := s0 (by omega)
  obtain ⟨w, hw, hg, hc⟩ := core_ValidDesk a0 o0 s0
  have c0 := (ctsm_Desk a0 s0)
  simp only [hw, hg, to_Desk a0 c0, eq_Desk a0 c0, Option.bind_some, Bool.not_true, bif_f, bif_t, ne_eq, not_true_eq_false, decide_false, bne_self_eq_false]
theorem law3 (x0 : V) (h0 : okV true [.str, .sl 1 false [.int .i64], .sl 1 false [.int .i64], .int .i64, .int .i64, .sl 1 false [.sl 1 false [.int .i64]], .sl 2 true [.int .i64, .int .i64], .str, .sl 2 true [.int .i64, .int .i64], .sl 1 false [.sl 1 false [.int .i64]], .sl 3 true [.str, .int .i64, .int .i64], .sl 2 true [.int .i64, .int .i64], .sl 6 true [.str, .int .i64, .int .i64, .int .i64, .int .i64, .int .i64], .sl 5 true [.int .i64, .str, .str, .int .i64, .int .i64], .sl 3 true [.str, .int .i64, .sl 1 false [.str]]] x0) : Con Tryz.prog 3 [x0] (.v (.bool true)) := by
  obtain ⟨a0, rfl, o0⟩ := dec_Desk x0 h0
  exact con_laws_FnExactValidDesk (law_ValidDesk a0 o0)
end Go.Ab
