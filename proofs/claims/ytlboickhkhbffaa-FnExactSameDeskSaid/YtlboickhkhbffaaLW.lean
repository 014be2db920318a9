/- The law over the values of the machine (own text, printed by sup.py). -/
import Derived.Test.YtlboickhkhbffaaPSame
set_option linter.unusedVariables false
namespace Go.Ab
open Go.RowKit Go.Proofs
theorem law_SameDesk (a0 : TDesk) (a1 : TDesk) (o0 : OkDesk a0) (o1 : OkDesk a1) : F_laws_FnExactSameDesk a0 a1 = some true := by
  unfold F_laws_FnExactSameDesk
  obtain ⟨r0, z0, y0, s0⟩ := sz_Desk a0 o0 1048576 (by omega) (by omega)
  rw [z0]
  rw [Option.bind_some, bif_dec]
  split
  · rfl
  have s0 := s0 (by omega)
  obtain ⟨r1, z1, y1, s1⟩ := sz_Desk a1 o1 r0 (by omega) (by omega)
  rw [z1]
  rw [Option.bind_some, bif_dec]
  split
  · rfl
  have s1 := s1 (by omega)
  obtain ⟨w, hw, hg, hc⟩ := core_SameDesk a0 a1 o0 o1 s0 s1
  have c0 := (ctsm_Desk a0 s0)
  have c1 := (ctsm_Desk a1 s1)
  simp only [hw, hg, to_Desk a0 c0, eq_Desk a0 c0, to_Desk a1 c1, eq_Desk a1 c1, Option.bind_some, Bool.not_true, bif_f, bif_t, ne_eq, not_true_eq_false, decide_false, bne_self_eq_false]
theorem law4 (x0 : V) (x1 : V) (h0 : okV true [.str, .sl 1 false [.int .i64], .sl 1 false [.int .i64], .int .i64, .int .i64, .sl 1 false [.sl 1 false [.int .i64]], .sl 2 true [.int .i64, .int .i64], .str, .sl 2 true [.int .i64, .int .i64], .sl 1 false [.sl 1 false [.int .i64]], .sl 3 true [.str, .int .i64, .int .i64], .sl 2 true [.int .i64, .int .i64], .sl 6 true [.str, .int .i64, .int .i64, .int .i64, .int .i64, .int .i64], .sl 5 true [.int .i64, .str, .str, .int .i64, .int .i64], .sl 3 true [.str, .int .i64, .sl 1 false [.str]]] x0) (h1 : okV true [.str, .sl 1 false [.int .i64], .sl 1 false [.int .i64], .int .i64, .int .i64, .sl 1 false [.sl 1 false [.int .i64]], .sl 2 true [.int .i64, .int .i64], .str, .sl 2 true [.int .i64, .int .i64], .sl 1 false [.sl 1 false [.int .i64]], .sl 3 true [.str, .int .i64, .int .i64], .sl 2 true [.int .i64, .int .i64], .sl 6 true [.str, .int .i64, .int .i64, .int .i64, .int .i64, .int .i64], .sl 5 true [.int .i64, .str, .str, .int .i64, .int .i64], .sl 3 true [.str, .int .i64, .sl 1 false [.str]]] x1) : Con Try.prog 4 [x0, x1] (.v (.bool true)) := by
  obtain ⟨a0, rfl, o0⟩ := dec_Desk x0 h0
  obtain ⟨a1, rfl, o1⟩ := dec_Desk x1 h1
  exact con_laws_FnExactSameDesk (law_SameDesk a0 a1 o0 o1)
end Go.Ab
