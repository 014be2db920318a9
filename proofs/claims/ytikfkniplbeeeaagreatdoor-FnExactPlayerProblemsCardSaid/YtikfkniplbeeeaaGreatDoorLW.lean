/- The law over the values of the machine (own text, printed by sup.py). -/
import Derived.Test.YtikfkniplbeeeaaGreatDoorPZ
set_option linter.unusedVariables false
namespace Go.Ab
open Go.RowKit Go.Proofs
theorem law_PlayerProblems (a0 : TWork) (o0 : OkWork a0) : F_laws_FnExactPlayerProblems a0 = some true := by
  unfold F_laws_FnExactPlayerProblems
  obtain ⟨r0, z0, y0, s0⟩ := sz_Work a0 o0 1048576 (by omega) (by omega)
  rw [z0]
  rw [Option.bind_some, bif_dec]
  split
  · rfl
  have s0 := s0 (by omega)
  obtain ⟨w, hw, hg, hc⟩ := core_PlayerProblems a0 o0 s0
  have c0 := (ctsm_Work a0 s0)
  obtain ⟨m0, n0, mq0, mr0, ms0, ml0, mc0, me0⟩ := mk_Work a0 c0 (1) (by omega) (by omega)
  have dk : decide ((1 + n0 : Int) < 0) = false := decide_eq_false (by omega)
  have hc0 := hc
  obtain ⟨g0, t0, gq0, gr0, gs0, gl0, gc0, ge0⟩ := mk_ProblemS w.1 hc0 (1) (by omega) (by omega)
  have dg0 : decide ((1 + t0 : Int) < 0) = false := decide_eq_false (by omega)
  simp only [hw, hg, to_Work a0 c0, eq_Work a0 c0, mq0, need_true ml0.1, need_true ml0.2.1, need_true ml0.2.2.1, need_true ml0.2.2.2.1, need_true ml0.2.2.2.2.1, need_true ml0.2.2.2.2.2.1, need_true ml0.2.2.2.2.2.2, dk, eq_ProblemS w.1 hc0, gq0, ge0, dg0, need_true gl0, Option.bind_some, Bool.not_true, bif_f, bif_t, ne_eq, not_true_eq_false, decide_false, bne_self_eq_false]
theorem law3 (x0 : V) (h0 : okV true [.str, .sl 1 false [.int .i64], .sl 1 false [.int .i64], .int .i64, .int .i64, .sl 1 false [.sl 1 false [.int .i64]], .int .i64, .int .i64, .sl 2 true [.int .i64, .int .i64], .str, .sl 1 false [.int .i64], .sl 1 false [.int .i64], .int .i64, .str, .int .i64, .int .i64, .int .i64, .sl 3 true [.str, .int .i64, .int .i64]] x0) : Con Tryz.prog 3 [x0] (.v (.bool true)) := by
  obtain ⟨a0, rfl, o0⟩ := dec_Work x0 h0
  exact con_laws_FnExactPlayerProblems (law_PlayerProblems a0 o0)
end Go.Ab
