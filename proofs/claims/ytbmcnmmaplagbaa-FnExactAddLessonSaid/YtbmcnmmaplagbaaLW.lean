/- The law over the values of the machine (own text, printed by sup.py). -/
import Derived.Test.YtbmcnmmaplagbaaPAddL
set_option linter.unusedVariables false
namespace Go.Ab
open Go.RowKit Go.Proofs
theorem law_AddLesson (a0 : List TLesson) (a1 : TLesson) (o0 : (OkL OkLesson) a0) (o1 : OkLesson a1) : F_laws_FnExactAddLesson a0 a1 = some true := by
  unfold F_laws_FnExactAddLesson
  obtain ⟨r0, z0, y0, s0⟩ := sz_LessonS a0 o0 1048576 (by omega) (by omega)
  rw [z0]
  rw [Option.bind_some, bif_dec]
  split
  · rfl
  have s0 := s0 (by omega)
  obtain ⟨r1, z1, y1, s1⟩ := sz_Lesson a1 o1 r0 (by omega) (by omega)
  rw [z1]
  rw [Option.bind_some, bif_dec]
  split
  · rfl
  have s1 := s1 (by omega)
  obtain ⟨w, hw, hg, hc⟩ := core_AddLesson a0 a1 o0 o1 s0 s1
  have c0 : (SmL CtLesson) a0 := ⟨s0.1, fun a ha => (ctsm_Lesson a (s0.2 a ha))⟩
  have c1 := (ctsm_Lesson a1 s1)
  obtain ⟨m0, n0, mq0, mr0, ms0, ml0, mc0, me0⟩ := mk_LessonS a0 c0 (1) (by omega) (by omega)
  have dk : decide ((1 + n0 : Int) < 0) = false := decide_eq_false (by omega)
  have hc0 := hc
  obtain ⟨g0, t0, gq0, gr0, gs0, gl0, gc0, ge0⟩ := mk_LessonS w.1 hc0 (1) (by omega) (by omega)
  have dg0 : decide ((1 + t0 : Int) < 0) = false := decide_eq_false (by omega)
  simp only [hw, hg, to_LessonS a0 c0, eq_LessonS a0 c0, to_Lesson a1 c1, eq_Lesson a1 c1, mq0, need_true ml0, dk, eq_LessonS w.1 hc0, gq0, ge0, dg0, need_true gl0, Option.bind_some, Bool.not_true, bif_f, bif_t, ne_eq, not_true_eq_false, decide_false, bne_self_eq_false]
theorem law13 (x0 : V) (x1 : V) (h0 : okV false [.sl 5 true [.int .i64, .str, .str, .int .i64, .int .i64]] x0) (h1 : okV true [.int .i64, .str, .str, .int .i64, .int .i64] x1) : Con Try.prog 13 [x0, x1] (.v (.bool true)) := by
  obtain ⟨a0, rfl, o0⟩ := (dec_one fun _ h => (dec_sl dec_Lesson) h) x0 h0
  obtain ⟨a1, rfl, o1⟩ := dec_Lesson x1 h1
  exact con_laws_FnExactAddLesson (law_AddLesson a0 a1 o0 o1)
end Go.Ab
