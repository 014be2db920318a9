/- LineFrom over plain data (own text). -/
import Derived.Test.YtcjbdiiffpkdoaaPAsk
set_option linter.unusedVariables false
set_option linter.unusedSimpArgs false
namespace Go.Ab
open Go.RowKit

theorem line_both {A : List TPerson} (hA : OkPersons A) (hV : VP A) : ∀ (f : Nat) (p : TPerson) (i : Int) (out : List (List UInt8)), ix A i = some p → p.2.1.toNat < f → out.length + p.2.1.toNat ≤ 10000 →
    ∃ L, iter (F_spec_LineFrom_l0 A) f (i, out) = some (L, 0) ∧ iter (F_impl_LineFrom_l0 A) f (p.2.2, out) = some (L, 0) ∧ L.length ≤ 10000
  | 0, p, i, out, hp, hb, _ => by omega
  | f + 1, p, i, out, hp, hb, ho => by
    show ∃ L, F_spec_LineFrom_l0 A (iter (F_spec_LineFrom_l0 A) f) (i, out) = some (L, 0) ∧ F_impl_LineFrom_l0 A (iter (F_impl_LineFrom_l0 A) f) (p.2.2, out) = some (L, 0) ∧ L.length ≤ 10000
    have hP := hV.each p (ix_mem hp)
    simp only [F_spec_LineFrom_l0, F_impl_LineFrom_l0, hp, Option.bind_some]
    cases ht : p.2.2 with
    | nil => exact ⟨out, by simp, by simp, by omega⟩
    | cons t ts =>
      obtain ⟨q, h1, h2, h3⟩ := hP.tch t (by rw [ht]; simp)
      have hQ := hV.each q (ix_mem h2)
      have b1 := hP.born
      have b2 := hQ.born
      obtain ⟨L, e1, e2, e3⟩ := line_both hA hV f q (atP A t) (out ++ [t]) h2 (by omega) (by simp; omega)
      have hroom : room (out.length + [t].length) 16 := by constructor <;> simp <;> omega
      have hpos : decide ((0 : Int) < ((t :: ts).length : Int)) = true := decide_eq_true (by simp)
      refine ⟨L, ?_, ?_, e3⟩
      · simp only [hpos, bif_t, ht, ix_zero, Option.bind_some, need_true hroom, hp, l30Find_eq A t hA.1, e1]
      · simp only [hpos, bif_t, ix_zero, Option.bind_some, need_true hroom, personAt_eq A t hA.1, h2, e2]
theorem core_LineFrom (A : List TPerson) (n : List UInt8) (oA : (OkL OkPerson) A) (on : OkS n) (sA : (SmL SmPerson) A) (sn : SmS n) :
    ∃ w, F_spec_LineFrom A n = some w ∧ F_impl_LineFrom A n = some w ∧ (SmL (fun _ => True)) w.1 := by
  obtain ⟨r, h1, h2, h3⟩ := valid_eq oA
  unfold F_spec_LineFrom F_impl_LineFrom
  rw [l30Ask_eq oA h1 n, personsCode_eq oA h2 [n] (by simp), l30Find_eq A n oA.1, personAt_eq A n oA.1]
  simp only [Option.bind_some, bif_dec]
  split
  · exact ⟨_, rfl, rfl, by simp [SmL]⟩
  · rename_i hc
    obtain ⟨hr, hn⟩ := ask_zero (Decidable.not_not.1 hc)
    obtain ⟨p, hp⟩ := at_ix (hn n (by simp))
    have hV := h3 hr
    have hb := (hV.each p (ix_mem hp)).born
    obtain ⟨L, e1, e2, e3⟩ := line_both oA hV lim p (atP A n) [n] hp (lt_lim (by omega)) (by simp; omega)
    refine ⟨(L, 0), ?_, ?_, by constructor; dsimp only; omega; simp⟩
    · exact e1
    · rw [hp]; exact e2
end Go.Ab
