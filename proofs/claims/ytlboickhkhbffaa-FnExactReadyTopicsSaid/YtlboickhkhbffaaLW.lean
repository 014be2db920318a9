/- The law over the values of the machine (own text, printed by sup.py). -/
import Derived.Test.YtlboickhkhbffaaPReady
set_option linter.unusedVariables false
namespace Go.Ab
open Go.RowKit Go.Proofs
theorem law_ReadyTopics (a0 : List TLesson) (a1 : List UInt8) (a2 : List (List (List UInt8))) (a3 : Int) (o0 : (OkL OkLesson) a0) (o1 : OkS a1) (o2 : (OkL (OkL OkS)) a2) (o3 : OkI a3) : F_laws_FnExactReadyTopics a0 a1 a2 a3 = some true := by
  unfold F_laws_FnExactReadyTopics
  rw [bif_dec]
  split
  · rfl
  rename_i hs1
  have s1 : SmS a1 := by show (a1.length : Int) ≤ 1048576; omega
  obtain ⟨r0, z0, y0, s0⟩ := sz_LessonS a0 o0 1048576 (by omega) (by omega)
  rw [z0]
  rw [Option.bind_some, bif_dec]
  split
  · rfl
  have s0 := s0 (by omega)
  obtain ⟨r2, z2, y2, s2⟩ := sz_StringSS a2 o2 r0 (by omega) (by omega)
  rw [z2]
  rw [Option.bind_some, bif_dec]
  split
  · rfl
  have s2 := s2 (by omega)
  obtain ⟨w, hw, hg, hc⟩ := core_ReadyTopics a0 a1 a2 a3 o0 o1 o2 o3 s0 s1 s2
  have c0 : (SmL CtLesson) a0 := ⟨s0.1, fun a ha => (ctsm_Lesson a (s0.2 a ha))⟩
  have c2 : (SmL (SmL (fun _ => True))) a2 := ⟨s2.1, fun a ha => ⟨(s2.2 a ha).1, fun a ha => trivial⟩⟩
  obtain ⟨m0, n0, mq0, mr0, ms0, ml0, mc0, me0⟩ := mk_LessonS a0 c0 (1) (by omega) (by omega)
  obtain ⟨m2, n2, mq2, mr2, ms2, ml2, mc2, me2⟩ := mk_StringSS a2 c2 (1 + n0) (by omega) (by omega)
  have dk : decide ((1 + n0 + n2 : Int) < 0) = false := decide_eq_false (by omega)
  have hc0 := hc
  obtain ⟨g0, t0, gq0, gr0, gs0, gl0, gc0, ge0⟩ := mk_StringS w.1 hc0 (1) (by omega) (by omega)
  have dg0 : decide ((1 + t0 : Int) < 0) = false := decide_eq_false (by omega)
  simp only [hw, hg, to_LessonS a0 c0, eq_LessonS a0 c0, to_StringSS a2 c2, eq_StringSS a2 c2, mq0, need_true ml0, mq2, need_true ml2, dk, eq_StringS w.1 hc0, gq0, ge0, dg0, need_true gl0, Option.bind_some, Bool.not_true, bif_f, bif_t, ne_eq, not_true_eq_false, decide_false, bne_self_eq_false]
theorem law5 (x0 : V) (x1 : V) (x2 : V) (x3 : V) (h0 : okV false [.sl 5 true [.int .i64, .str, .str, .int .i64, .int .i64]] x0) (h1 : okV false [.str] x1) (h2 : okV false [.sl 1 false [.sl 1 false [.str]]] x2) (h3 : okV false [.int .i64] x3) : Con Try.prog 5 [x0, x1, x2, x3] (.v (.bool true)) := by
  obtain ⟨a0, rfl, o0⟩ := (dec_one fun _ h => (dec_sl dec_Lesson) h) x0 h0
  obtain ⟨a1, rfl, o1⟩ := (dec_one fun _ h => dec_str h) x1 h1
  obtain ⟨a2, rfl, o2⟩ := (dec_one fun _ h => (dec_sl (dec_one fun _ h => (dec_sl (dec_one fun _ h => dec_str h)) h)) h) x2 h2
  obtain ⟨a3, rfl, o3⟩ := (dec_one fun _ h => dec_i64 h) x3 h3
  exact con_laws_FnExactReadyTopics (law_ReadyTopics a0 a1 a2 a3 o0 o1 o2 o3)
end Go.Ab
