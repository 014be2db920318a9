/- The laws' helpers over plain data (own text, printed by sup.py). -/
import Derived.Test.YthcojmhjnbebdaaDoorU0
import Derived.Test.YthcojmhjnbebdaaDoorPM
set_option linter.unusedVariables false
set_option linter.unusedSimpArgs false
namespace Go.Ab
open Go.RowKit
def SmS (s : List UInt8) : Prop := (s.length : Int) ≤ 1048576
def SmL {α : Type} (P : α → Prop) (L : List α) : Prop := (L.length : Int) ≤ 1048576 ∧ ∀ a ∈ L, P a
theorem int_lt_set {α : Type} {L : List α} {i : Nat} {a : α} : (List.set L i a).length = L.length := List.length_set
theorem ix_set {α : Type} {L : List α} {i : Nat} {a : α} (h : i < L.length) : ix (L.set i a) (i : Int) = some a := by rw [ix_nat, List.getElem?_set_self h]
theorem eq_Int64S (L : List Int) (h : (SmL (fun _ => True)) L) : F_laws_eqInt64S L L = some true := by
  have hL := h.1
  unfold F_laws_eqInt64S
  simp only [ne_eq, not_true_eq_false, decide_false, bif_f]
  rw [loop_all (L := L) (fun _ => true) (by omega)]
  · simp
  · intro i k a ha hi
    simp only [F_laws_eqInt64S_l0, int_lt (get_lt ha), ix_get ha, w64_succ hi, Option.bind_some, bif_t, ne_eq, not_true_eq_false, decide_false, bif_f]
  · intro k; simp [F_laws_eqInt64S_l0]
noncomputable def HInt64S (x : Int) (k n : Int) : Prop := x = k ∧ n = 1
theorem mk_Int64S (L : List Int) (h : (SmL (fun _ => True)) L) (k : Int) (h1 : 1 ≤ k) (h2 : k + 1048576 ≤ 4611686018427387904) : ∃ L' n, F_laws_markInt64S L k = some (L', k + n) ∧ 0 ≤ n ∧ n ≤ 1048576 ∧ L'.length = L.length ∧ (SmL (fun _ => True)) L' ∧ F_laws_heldInt64S L' k = some (k + n) := by
  have key : ∃ L' n, loop F_laws_markInt64S_l0 (k, 0, L) = some (L', k + n) ∧ 0 ≤ n ∧ n ≤ 1048576 * 1 ∧ L'.length = L.length ∧ (∀ a ∈ L', (fun _ => True) a) ∧ Marked HInt64S L' k n := by
    refine mark_loop HInt64S (fun _ => True) 1 (by omega) L k h.1 h1 (by omega) h.2 ?_ ?_
    · intro i k M a K ha hi hp hk hb
      refine ⟨k, 1, ⟨rfl, rfl⟩, by omega, by omega, trivial, ?_⟩
      have w1 : w64 (k + 1) = k + 1 := w64_id (by omega)
      simp only [F_laws_markInt64S_l0, int_lt (get_lt ha), ix_get ha, Option.bind_some, bif_t, w64_succ hi, Int.toNat_natCast, w1]
    · intro k M K; simp [F_laws_markInt64S_l0]
  obtain ⟨L', n, q1, q2, q3, q4, q5, q6⟩ := key
  refine ⟨L', n, q1, q2, by omega, q4, ⟨by rw [q4]; exact h.1, q5⟩, ?_⟩
  refine held_loop (body := F_laws_heldInt64S_l0 L') q6 (by rw [q4]; exact h.1) q2 h1 (by omega) ?_ ?_
  · rintro i k a n K ha hi ⟨he, rfl⟩ hn hk hb
    have w1 : w64 (k + 1) = k + 1 := w64_id (by omega)
    simp only [F_laws_heldInt64S_l0, int_lt (get_lt ha), ix_get ha, Option.bind_some, bif_t, w64_succ hi, Int.toNat_natCast, he, w1, ne_eq, not_true_eq_false, decide_false, bif_f]
  · intro k K; simp [F_laws_heldInt64S_l0]
noncomputable def OkPattern (p : TPattern) : Prop := (OkL OkI) p.1 ∧ OkI p.2
noncomputable def SmPattern (p : TPattern) : Prop := (SmL (fun _ => True)) p.1 ∧ (fun _ => True) p.2
noncomputable def CtPattern (p : TPattern) : Prop := (SmL (fun _ => True)) p.1 ∧ (fun _ => True) p.2
theorem ctsm_Pattern (p : TPattern) (h : SmPattern p) : CtPattern p := by
  obtain ⟨h0, h1⟩ := h
  exact ⟨⟨h0.1, fun a ha => trivial⟩, trivial⟩
theorem dec_Pattern (x : V) (h : Elem true [.sl 1 false [.int .i64], .int .i64] x) : ∃ p : TPattern, x = ePattern p ∧ OkPattern p := by
  obtain ⟨h1, h2⟩ := h
  have h1 : x = .agg x.cells := h1
  obtain ⟨v0, l0, hc, k0, v1, l1, rfl, k1, rfl⟩ := h2
  obtain ⟨a0, rfl, b0⟩ := (dec_sl (dec_one fun _ h => dec_i64 h)) k0
  obtain ⟨a1, rfl, b1⟩ := dec_i64 k1
  exact ⟨(a0, a1), by rw [h1, hc]; rfl, ⟨b0, b1⟩⟩
theorem eq_Pattern (p : TPattern) (h : CtPattern p) : F_laws_eqPattern p p = some true := by
  obtain ⟨s0, s1⟩ := h
  simp [F_laws_eqPattern, eq_Int64S _ s0]
theorem mk_Pattern (p : TPattern) (h : CtPattern p) (k : Int) (h1 : 1 ≤ k) (h2 : k + 1048577 ≤ 4611686018427387904) : ∃ (p' : TPattern) (n : Int), F_laws_markPattern p k = some (p', k + n) ∧ 0 ≤ n ∧ n ≤ 1048577 ∧ (p'.1.length = p.1.length) ∧ CtPattern p' ∧ F_laws_heldPattern p' k = some (k + n) := by
  obtain ⟨b0, n0, q0, r0, s0, l0, c0, e0⟩ := mk_Int64S p.1 h.1 (k) (by omega) (by omega)
  have d0 : decide ((k + n0 : Int) < 0) = false := decide_eq_false (by omega)
  have eK : k + n0 = k + (n0) := by omega
  have wE : w64 (k + (n0)) = k + (n0) := w64_id (by omega)
  refine ⟨(b0, p.2), n0, ?_, by omega, by omega, l0, ⟨c0, trivial⟩, ?_⟩
  · simp only [F_laws_markPattern, q0, need_true l0, Option.bind_some, eK, wE]
  · simp only [F_laws_heldPattern, e0, Option.bind_some, d0, bif_f, eK, wE]
end Go.Ab
