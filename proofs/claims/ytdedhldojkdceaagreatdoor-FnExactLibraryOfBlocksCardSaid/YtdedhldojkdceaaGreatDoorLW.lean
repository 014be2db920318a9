/- The law over the values of the machine (own text, printed by sup.py). -/
import Derived.Test.YtdedhldojkdceaaGreatDoorPZ
set_option linter.unusedVariables false
namespace Go.Ab
open Go.RowKit Go.Proofs
theorem law_LibraryOfBlocks (a0 : List TBlock) (o0 : (OkL OkBlock) a0) : F_laws_FnExactLibraryOfBlocks a0 = some true := by
  unfold F_laws_FnExactLibraryOfBlocks
  obtain ⟨r0, z0, y0, s0⟩ := sz_BlockS a0 o0 1048576 (by omega) (by omega)
  rw [z0]
  rw [Option.bind_some, bif_dec]
  split
  · rfl
  have s0 := s0 (by omega)
  obtain ⟨w, hw, hg, hc⟩ := core_LibraryOfBlocks a0 o0 s0
  have c0 : (SmL CtBlock) a0 := ⟨s0.1, fun a ha => (ctsm_Block a (s0.2 a ha))⟩
  obtain ⟨m0, n0, mq0, mr0, ms0, ml0, mc0, me0⟩ := mk_BlockS a0 c0 (1) (by omega) (by omega)
  have dk : decide ((1 + n0 : Int) < 0) = false := decide_eq_false (by omega)
  have hc0 := hc
  obtain ⟨g0, t0, gq0, gr0, gs0, gl0, gc0, ge0⟩ := mk_NamedMelodyS w.1 hc0 (1) (by omega) (by omega)
  have dg0 : decide ((1 + t0 : Int) < 0) = false := decide_eq_false (by omega)
  simp only [hw, hg, to_BlockS a0 c0, eq_BlockS a0 c0, mq0, need_true ml0, dk, eq_NamedMelodyS w.1 hc0, gq0, ge0, dg0, need_true gl0, Option.bind_some, Bool.not_true, bif_f, bif_t, ne_eq, not_true_eq_false, decide_false, bne_self_eq_false]
theorem law3 (x0 : V) (h0 : okV false [.sl 3 true [.str, .str, .str]] x0) : Con Tryz.prog 3 [x0] (.v (.bool true)) := by
  obtain ⟨a0, rfl, o0⟩ := (dec_one fun _ h => (dec_sl dec_Block) h) x0 h0
  exact con_laws_FnExactLibraryOfBlocks (law_LibraryOfBlocks a0 o0)
end Go.Ab
