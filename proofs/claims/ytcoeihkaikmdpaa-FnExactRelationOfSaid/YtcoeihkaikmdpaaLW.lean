/- The law over the values of the machine (own text, printed by sup.py). -/
import Derived.Test.YtcoeihkaikmdpaaPRel
set_option linter.unusedVariables false
namespace Go.Ab
open Go.RowKit Go.Proofs
theorem law_RelationOf (a0 : List TPerson) (a1 : List UInt8) (a2 : List UInt8) (o0 : (OkL OkPerson) a0) (o1 : OkS a1) (o2 : OkS a2) : F_laws_FnExactRelationOf a0 a1 a2 = some true := by
  unfold F_laws_FnExactRelationOf
  rw [bif_dec]
  split
  · rfl
  rename_i hs1
  have s1 : SmS a1 := by show (a1.length : Int) ≤ 1048576; omega
  rw [bif_dec]
  split
  · rfl
  rename_i hs2
  have s2 : SmS a2 := by show (a2.length : Int) ≤ 1048576; omega
  obtain ⟨r0, z0, y0, s0⟩ := sz_PersonS a0 o0 1048576 (by omega) (by omega)
  rw [z0]
  rw [Option.bind_some, bif_dec]
  split
  · rfl
  have s0 := s0 (by omega)
  obtain ⟨w, hw, hg, hc⟩ := core_RelationOf a0 a1 a2 o0 o1 o2 s0 s1 s2
  have c0 : (SmL CtPerson) a0 := ⟨s0.1, fun a ha => (ctsm_Person a (s0.2 a ha))⟩
  simp only [hw, hg, to_PersonS a0 c0, eq_PersonS a0 c0, Option.bind_some, Bool.not_true, bif_f, bif_t, ne_eq, not_true_eq_false, decide_false, bne_self_eq_false]
theorem law4 (x0 : V) (x1 : V) (x2 : V) (h0 : okV false [.sl 3 true [.str, .int .i64, .sl 1 false [.str]]] x0) (h1 : okV false [.str] x1) (h2 : okV false [.str] x2) : Con Try.prog 4 [x0, x1, x2] (.v (.bool true)) := by
  obtain ⟨a0, rfl, o0⟩ := (dec_one fun _ h => (dec_sl dec_Person) h) x0 h0
  obtain ⟨a1, rfl, o1⟩ := (dec_one fun _ h => dec_str h) x1 h1
  obtain ⟨a2, rfl, o2⟩ := (dec_one fun _ h => dec_str h) x2 h2
  exact con_laws_FnExactRelationOf (law_RelationOf a0 a1 a2 o0 o1 o2)
end Go.Ab
