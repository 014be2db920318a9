/- The law over the values of the machine (own text, printed by sup.py). -/
import Derived.Test.YthcojmhjnbebdaaDoorPZ
set_option linter.unusedVariables false
namespace Go.Ab
open Go.RowKit Go.Proofs
theorem law_BlocksOfLibrary (a0 : List TNamedMelody) (o0 : (OkL OkNamedMelody) a0) : F_laws_FnExactBlocksOfLibrary a0 = some true := by
  unfold F_laws_FnExactBlocksOfLibrary
  obtain ⟨r0, z0, y0, s0⟩ := sz_NamedMelodyS a0 o0 1048576 (by omega) (by omega)
  rw [z0]
  rw [Option.bind_some, bif_dec]
  split
  · rfl
  have s0 := s0 (by omega)
  obtain ⟨w, hw, hg, hc⟩ := core_BlocksOfLibrary a0 o0 s0
  have c0 : (SmL CtNamedMelody) a0 := ⟨s0.1, fun a ha => (ctsm_NamedMelody a (s0.2 a ha))⟩
  obtain ⟨m0, n0, mq0, mr0, ms0, ml0, mc0, me0⟩ := mk_NamedMelodyS a0 c0 (1) (by omega) (by omega)
  have dk : decide ((1 + n0 : Int) < 0) = false := decide_eq_false (by omega)
  have hc0 := hc
  obtain ⟨g0, t0, gq0, gr0, gs0, gl0, gc0, ge0⟩ := mk_BlockS w.1 hc0 (1) (by omega) (by omega)
  have dg0 : decide ((1 + t0 : Int) < 0) = false := decide_eq_false (by omega)
  simp only [hw, hg, to_NamedMelodyS a0 c0, eq_NamedMelodyS a0 c0, mq0, need_true ml0, dk, eq_BlockS w.1 hc0, gq0, ge0, dg0, need_true gl0, Option.bind_some, Bool.not_true, bif_f, bif_t, ne_eq, not_true_eq_false, decide_false, bne_self_eq_false]
theorem law9 (x0 : V) (h0 : okV false [.sl 2 true [.str, .sl 2 true [.int .i64, .int .i64]]] x0) : Con Tryd.prog 9 [x0] (.v (.bool true)) := by
  obtain ⟨a0, rfl, o0⟩ := (dec_one fun _ h => (dec_sl dec_NamedMelody) h) x0 h0
  exact con_laws_FnExactBlocksOfLibrary (law_BlocksOfLibrary a0 o0)
end Go.Ab
