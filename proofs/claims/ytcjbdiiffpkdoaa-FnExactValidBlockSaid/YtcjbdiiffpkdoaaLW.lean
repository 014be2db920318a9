/- The law over the values of the machine (own text, printed by sup.py). -/
import Derived.Test.YtcjbdiiffpkdoaaPVBlock
set_option linter.unusedVariables false
namespace Go.Ab
open Go.RowKit Go.Proofs
theorem law_ValidBlock (a0 : TBlock) (o0 : OkBlock a0) : F_laws_FnExactValidBlock a0 = some true := by
  unfold F_laws_FnExactValidBlock
  obtain ⟨r0, z0, y0, s0⟩ := sz_Block a0 o0 1048576 (by omega) (by omega)
  rw [z0]
  rw [Option.bind_some, bif_dec]
  split
  · rfl
  have s0 := s0 (by omega)
  obtain ⟨w, hw, hg, hc⟩ := core_ValidBlock a0 o0 s0
  have c0 := (ctsm_Block a0 s0)
  simp only [hw, hg, to_Block a0 c0, Option.bind_some, Bool.not_true, bif_f, bif_t, ne_eq, not_true_eq_false, decide_false, bne_self_eq_false]
theorem law8 (x0 : V) (h0 : okV true [.str, .str, .str] x0) : Con Try.prog 8 [x0] (.v (.bool true)) := by
  obtain ⟨a0, rfl, o0⟩ := dec_Block x0 h0
  exact con_laws_FnExactValidBlock (law_ValidBlock a0 o0)
end Go.Ab
