/- The law over the values of the machine (own text, printed by sup.py). -/
import Derived.Test.YtcjbdiiffpkdoaaPBlocks
set_option linter.unusedVariables false
namespace Go.Ab
open Go.RowKit Go.Proofs
theorem law_ValidBlocks (a0 : List TBlock) (o0 : (OkL OkBlock) a0) : F_laws_FnExactValidBlocks a0 = some true := by
  unfold F_laws_FnExactValidBlocks
  obtain ⟨r0, z0, y0, s0⟩ := sz_BlockS a0 o0 1048576 (by omega) (by omega)
  rw [z0]
  rw [Option.bind_some, bif_dec]
  split
  · rfl
  have s0 := s0 (by omega)
  obtain ⟨w, hw, hg, hc⟩ := core_ValidBlocks a0 o0 s0
  have c0 : (SmL CtBlock) a0 := ⟨s0.1, fun a ha => (ctsm_Block a (s0.2 a ha))⟩
  simp only [hw, hg, to_BlockS a0 c0, eq_BlockS a0 c0, Option.bind_some, Bool.not_true, bif_f, bif_t, ne_eq, not_true_eq_false, decide_false, bne_self_eq_false]
theorem law14 (x0 : V) (h0 : okV false [.sl 3 true [.str, .str, .str]] x0) : Con Try.prog 14 [x0] (.v (.bool true)) := by
  obtain ⟨a0, rfl, o0⟩ := (dec_one fun _ h => (dec_sl dec_Block) h) x0 h0
  exact con_laws_FnExactValidBlocks (law_ValidBlocks a0 o0)
end Go.Ab
