/- The law over the values of the machine (own text, printed by sup.py). -/
import Derived.Test.YtkfkofohmlpmkaaDoorPZ
set_option linter.unusedVariables false
namespace Go.Ab
open Go.RowKit Go.Proofs
theorem law_PersonsText (a0 : List TPerson) (o0 : (OkL OkPerson) a0) : F_laws_FnExactPersonsText a0 = some true := by
  unfold F_laws_FnExactPersonsText
  obtain ⟨r0, z0, y0, s0⟩ := sz_PersonS a0 o0 1048576 (by omega) (by omega)
  rw [z0]
  rw [Option.bind_some, bif_dec]
  split
  · rfl
  have s0 := s0 (by omega)
  obtain ⟨w, hw, hg, hc⟩ := core_PersonsText a0 o0 s0
  have c0 : (SmL CtPerson) a0 := ⟨s0.1, fun a ha => (ctsm_Person a (s0.2 a ha))⟩
  simp only [hw, hg, to_PersonS a0 c0, eq_PersonS a0 c0, Option.bind_some, Bool.not_true, bif_f, bif_t, ne_eq, not_true_eq_false, decide_false, bne_self_eq_false]
theorem law3 (x0 : V) (h0 : okV false [.sl 3 true [.str, .int .i64, .sl 1 false [.str]]] x0) : Con Tryd.prog 3 [x0] (.v (.bool true)) := by
  obtain ⟨a0, rfl, o0⟩ := (dec_one fun _ h => (dec_sl dec_Person) h) x0 h0
  exact con_laws_FnExactPersonsText (law_PersonsText a0 o0)
end Go.Ab
