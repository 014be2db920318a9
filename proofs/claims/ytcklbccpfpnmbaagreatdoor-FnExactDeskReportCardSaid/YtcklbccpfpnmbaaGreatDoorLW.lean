/- The law over the values of the machine (own text, printed by sup.py). -/
import Derived.Test.YtcklbccpfpnmbaaGreatDoorPZ
set_option linter.unusedVariables false
namespace Go.Ab
open Go.RowKit Go.Proofs
theorem b4D (a0 : y8) (o0 : b0L a0) : M8 a0 = some true := by
  unfold M8
  obtain ⟨r0, z0, y0, s0⟩ := c3u a0 o0 1048576 (by omega) (by omega)
  rw [z0]
  rw [Option.bind_some, A4]
  split
  · rfl
  have s0 := s0 (by omega)
  obtain ⟨w, hw, hg, hc⟩ := b2m a0 o0 s0
  have c0 := (c0E a0 s0)
  obtain ⟨m0, n0, mq0, mr0, ms0, ml0, mc0, me0⟩ := c4h a0 c0 (1) (by omega) (by omega)
  have dk : decide ((1 + n0 : Int) < 0) = false := decide_eq_false (by omega)
  have hc0 := hc
  obtain ⟨g0, t0, gq0, gr0, gs0, gl0, gc0, ge0⟩ := b3x w.1 hc0 (1) (by omega) (by omega)
  have dg0 : decide ((1 + t0 : Int) < 0) = false := decide_eq_false (by omega)
  simp only [hw, hg, c3Z a0 c0, c3r a0 c0, mq0, y1 ml0.1, y1 ml0.2.1, y1 ml0.2.2.1, y1 ml0.2.2.2.1, y1 ml0.2.2.2.2.1, y1 ml0.2.2.2.2.2.1, y1 ml0.2.2.2.2.2.2.1, y1 ml0.2.2.2.2.2.2.2.1, y1 ml0.2.2.2.2.2.2.2.2.1, y1 ml0.2.2.2.2.2.2.2.2.2.1, y1 ml0.2.2.2.2.2.2.2.2.2.2, dk, b4E w.1 hc0, gq0, ge0, dg0, y1 gl0, Option.bind_some, Bool.not_true, A0, y7, ne_eq, not_true_eq_false, decide_false, bne_self_eq_false]
theorem law3 (x0 : V) (h0 : okV true [.str, .sl 1 false [.int .i64], .sl 1 false [.int .i64], .int .i64, .int .i64, .sl 1 false [.sl 1 false [.int .i64]], .sl 2 true [.int .i64, .int .i64], .str, .sl 2 true [.int .i64, .int .i64], .sl 1 false [.sl 1 false [.int .i64]], .sl 3 true [.str, .int .i64, .int .i64], .sl 2 true [.int .i64, .int .i64], .sl 6 true [.str, .int .i64, .int .i64, .int .i64, .int .i64, .int .i64], .sl 5 true [.int .i64, .str, .str, .int .i64, .int .i64], .sl 3 true [.str, .int .i64, .sl 1 false [.str]]] x0) : Con Tryz.prog 3 [x0] (.v (.bool true)) := by
  obtain ⟨a0, rfl, o0⟩ := c2t x0 h0
  exact a3D (b4D a0 o0)
end Go.Ab
