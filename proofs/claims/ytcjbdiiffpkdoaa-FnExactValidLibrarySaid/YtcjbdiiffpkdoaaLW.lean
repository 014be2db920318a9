/- The law over the values of the machine (own text, printed by sup.py). -/
import Derived.Test.YtcjbdiiffpkdoaaPLibrary
set_option linter.unusedVariables false
namespace Go.Ab
open Go.RowKit Go.Proofs
theorem law_ValidLibrary (a0 : List TNamedMelody) (o0 : (OkL OkNamedMelody) a0) : F_laws_FnExactValidLibrary a0 = some true := by
  unfold F_laws_FnExactValidLibrary
  obtain ⟨r0, z0, y0, s0⟩ := sz_NamedMelodyS a0 o0 1048576 (by omega) (by omega)
  rw [z0]
  rw [Option.bind_some, bif_dec]
  split
  · rfl
  have s0 := s0 (by omega)
  obtain ⟨w, hw, hg, hc⟩ := core_ValidLibrary a0 o0 s0
  have c0 : (SmL CtNamedMelody) a0 := ⟨s0.1, fun a ha => (ctsm_NamedMelody a (s0.2 a ha))⟩
  simp only [hw, hg, to_NamedMelodyS a0 c0, eq_NamedMelodyS a0 c0, Option.bind_some, Bool.not_true, bif_f, bif_t, ne_eq, not_true_eq_false, decide_false, bne_self_eq_false]
theorem law10 (x0 : V) (h0 : okV false [.sl 2 true [.str, .sl 2 true [.int .i64, .int .i64]]] x0) : Con Try.prog 10 [x0] (.v (.bool true)) := by
  obtain ⟨a0, rfl, o0⟩ := (dec_one fun _ h => (dec_sl dec_NamedMelody) h) x0 h0
  exact con_laws_FnExactValidLibrary (law_ValidLibrary a0 o0)
end Go.Ab
