/- The law over the values of the machine (own text, printed by sup.py). -/
import Derived.Test.YtphjibapchafkaaDoorPZ
set_option linter.unusedVariables false
namespace Go.Ab
open Go.RowKit Go.Proofs
theorem law_ReadPersons (a0 : List UInt8) (o0 : OkS a0) : F_laws_FnExactReadPersons a0 = some true := by
  unfold F_laws_FnExactReadPersons
  rw [bif_dec]
  split
  · rfl
  rename_i hs0
  have s0 : SmS a0 := by show (a0.length : Int) ≤ 1048576; omega
  obtain ⟨w, hw, hg, hc⟩ := core_ReadPersons a0 o0 s0
  have hc0 := hc
  obtain ⟨g0, t0, gq0, gr0, gs0, gl0, gc0, ge0⟩ := mk_PersonS w.1 hc0 (1) (by omega) (by omega)
  have dg0 : decide ((1 + t0 : Int) < 0) = false := decide_eq_false (by omega)
  simp only [hw, hg, eq_PersonS w.1 hc0, gq0, ge0, dg0, need_true gl0, Option.bind_some, Bool.not_true, bif_f, bif_t, ne_eq, not_true_eq_false, decide_false, bne_self_eq_false]
theorem law3 (x0 : V) (h0 : okV false [.str] x0) : Con Tryd.prog 3 [x0] (.v (.bool true)) := by
  obtain ⟨a0, rfl, o0⟩ := (dec_one fun _ h => dec_str h) x0 h0
  exact con_laws_FnExactReadPersons (law_ReadPersons a0 o0)
end Go.Ab
