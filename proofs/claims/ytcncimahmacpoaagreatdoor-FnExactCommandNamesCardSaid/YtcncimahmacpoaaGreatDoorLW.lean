/- The law over the values of the machine (own text, printed by sup.py). -/
import Derived.Test.YtcncimahmacpoaaGreatDoorPCn
set_option linter.unusedVariables false
namespace Go.Ab
open Go.RowKit Go.Proofs
theorem law_CommandNames   : F_laws_FnExactCommandNames  = some true := by
  unfold F_laws_FnExactCommandNames
  obtain ⟨w, hw, hg, hc⟩ := core_CommandNames   
  have hc0 := hc
  obtain ⟨g0, t0, gq0, gr0, gs0, gl0, gc0, ge0⟩ := mk_StringS w hc0 (1) (by omega) (by omega)
  have dg0 : decide ((1 + t0 : Int) < 0) = false := decide_eq_false (by omega)
  simp only [hw, hg, eq_StringS w hc0, gq0, ge0, dg0, need_true gl0, Option.bind_some, Bool.not_true, bif_f, bif_t, ne_eq, not_true_eq_false, decide_false, bne_self_eq_false]
theorem law3   : Con Tryz.prog 3 [] (.v (.bool true)) := by
  exact con_laws_FnExactCommandNames (law_CommandNames  )
end Go.Ab
