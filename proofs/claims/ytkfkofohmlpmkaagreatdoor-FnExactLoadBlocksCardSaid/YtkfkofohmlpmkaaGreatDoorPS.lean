/- The laws' helpers over plain data (own text, printed by sup.py). -/
import Derived.Test.YtkfkofohmlpmkaaGreatDoorU1
import Derived.Test.YtkfkofohmlpmkaaGreatDoorPM
set_option linter.unusedVariables false
set_option linter.unusedSimpArgs false
namespace Go.Ab
open Go.RowKit
def SmS (s : List UInt8) : Prop := (s.length : Int) ≤ 1048576
def SmL {α : Type} (P : α → Prop) (L : List α) : Prop := (L.length : Int) ≤ 1048576 ∧ ∀ a ∈ L, P a
theorem int_lt_set {α : Type} {L : List α} {i : Nat} {a : α} : (List.set L i a).length = L.length := List.length_set
theorem ix_set {α : Type} {L : List α} {i : Nat} {a : α} (h : i < L.length) : ix (L.set i a) (i : Int) = some a := by rw [ix_nat, List.getElem?_set_self h]
/-- The text of a mark. -/
noncomputable def mt (k : Int) : List UInt8 := (F_laws_markText k).getD []
theorem markText_mt (k : Int) (h1 : 1 ≤ k) (h2 : k ≤ 4611686018427387904) : F_laws_markText k = some (mt k) := by
  have key : ∃ r, F_laws_markText k = some r ∧ True := by
    unfold F_laws_markText
    rw [decide_eq_false (by omega), bif_f]
    refine loop_mu (fun s => 0 ≤ s.1 ∧ s.1 + (s.2.length : Int) ≤ 4611686018427387904) (fun s => s.1.toNat) ⟨by dsimp only; omega, by simp; omega⟩ (lt_lim (by dsimp only; omega)) ?_
    rintro ⟨v, t⟩ K ⟨q1, q2⟩ hK
    dsimp only at q1 q2 hK
    have hb : ∀ x : Int, (bytesI [x]).length = 1 := fun _ => rfl
    simp only [F_laws_markText_l0, bif_dec]
    split
    · rename_i hv
      have e1 : Int.tdiv v 10 = v / 10 := Int.tdiv_eq_ediv_of_nonneg q1
      rw [need_true (by rw [hb]; omega), e1, w64_id (by omega)]
      refine hK _ ⟨by dsimp only; omega, ?_⟩ (by dsimp only; omega)
      simp only [List.length_append, hb]
      omega
    · rw [need_true (by simp only [List.length_cons, List.length_nil]; omega)]
      exact ⟨_, rfl, trivial⟩
  obtain ⟨r, h, _⟩ := key
  rw [mt, h]; rfl
noncomputable def OkBlock (p : TBlock) : Prop := OkS p.1 ∧ OkS p.2.1 ∧ OkS p.2.2
noncomputable def SmBlock (p : TBlock) : Prop := SmS p.1 ∧ SmS p.2.1 ∧ SmS p.2.2
noncomputable def CtBlock (p : TBlock) : Prop := (fun _ => True) p.1 ∧ (fun _ => True) p.2.1 ∧ (fun _ => True) p.2.2
theorem ctsm_Block (p : TBlock) (h : SmBlock p) : CtBlock p := by
  obtain ⟨h0, h1, h2⟩ := h
  exact ⟨trivial, trivial, trivial⟩
theorem dec_Block (x : V) (h : Elem true [.str, .str, .str] x) : ∃ p : TBlock, x = eBlock p ∧ OkBlock p := by
  obtain ⟨h1, h2⟩ := h
  have h1 : x = .agg x.cells := h1
  obtain ⟨v0, l0, hc, k0, v1, l1, rfl, k1, v2, l2, rfl, k2, rfl⟩ := h2
  obtain ⟨a0, rfl, b0⟩ := dec_str k0
  obtain ⟨a1, rfl, b1⟩ := dec_str k1
  obtain ⟨a2, rfl, b2⟩ := dec_str k2
  exact ⟨(a0, a1, a2), by rw [h1, hc]; rfl, ⟨b0, b1, b2⟩⟩
theorem eq_Block (p : TBlock) (h : CtBlock p) : F_laws_eqBlock p p = some true := by
  obtain ⟨s0, s1, s2⟩ := h
  simp [F_laws_eqBlock]
theorem eq_BlockS (L : List TBlock) (h : (SmL CtBlock) L) : F_laws_eqBlockS L L = some true := by
  have hL := h.1
  unfold F_laws_eqBlockS
  simp only [ne_eq, not_true_eq_false, decide_false, bif_f]
  rw [loop_all (L := L) (fun _ => true) (by omega)]
  · simp
  · intro i k a ha hi
    simp only [F_laws_eqBlockS_l0, int_lt (get_lt ha), ix_get ha, w64_succ hi, Option.bind_some, bif_t, eq_Block a (h.2 a (get_mem ha)), Bool.not_true, bif_f]
  · intro k; simp [F_laws_eqBlockS_l0]
noncomputable def HBlockS (x : TBlock) (k n : Int) : Prop := x.1 = mt (k) ∧ x.2.1 = mt (k + 1) ∧ x.2.2 = mt (k + 1 + 1) ∧ n = 3
theorem mk_BlockS (L : List TBlock) (h : (SmL CtBlock) L) (k : Int) (h1 : 1 ≤ k) (h2 : k + 3145728 ≤ 4611686018427387904) : ∃ L' n, F_laws_markBlockS L k = some (L', k + n) ∧ 0 ≤ n ∧ n ≤ 3145728 ∧ L'.length = L.length ∧ (SmL CtBlock) L' ∧ F_laws_heldBlockS L' k = some (k + n) := by
  have key : ∃ L' n, loop F_laws_markBlockS_l0 (k, 0, L) = some (L', k + n) ∧ 0 ≤ n ∧ n ≤ 1048576 * 3 ∧ L'.length = L.length ∧ (∀ a ∈ L', CtBlock a) ∧ Marked HBlockS L' k n := by
    refine mark_loop HBlockS CtBlock 3 (by omega) L k h.1 h1 (by omega) h.2 ?_ ?_
    · intro i k M a K ha hi hp hk hb
      have t0 := markText_mt (k) (by omega) (by omega)
      have w0 : w64 (k + 1) = k + 1 := w64_id (by omega)
      have t1 := markText_mt (k + 1) (by omega) (by omega)
      have w1 : w64 (k + 1 + 1) = k + 1 + 1 := w64_id (by omega)
      have t2 := markText_mt (k + 1 + 1) (by omega) (by omega)
      have w2 : w64 (k + 1 + 1 + 1) = k + 1 + 1 + 1 := w64_id (by omega)
      refine ⟨(mt (k), mt (k + 1), mt (k + 1 + 1)), 3, ⟨rfl, rfl, rfl, rfl⟩, by omega, by omega, ⟨trivial, trivial, trivial⟩, ?_⟩
      have eK : k + 1 + 1 + 1 = k + (3) := by omega
      have wE : w64 (k + (3)) = k + (3) := w64_id (by omega)
      simp only [F_laws_markBlockS_l0, int_lt (get_lt ha), ix_get ha, Option.bind_some, bif_t, w64_succ hi, Int.toNat_natCast, int_lt_set, ix_set (get_lt ha), List.set_set, List.length_set, t0, w0, t1, w1, t2, w2, eK, wE]
    · intro k M K; simp [F_laws_markBlockS_l0]
  obtain ⟨L', n, q1, q2, q3, q4, q5, q6⟩ := key
  refine ⟨L', n, q1, q2, by omega, q4, ⟨by rw [q4]; exact h.1, q5⟩, ?_⟩
  refine held_loop (body := F_laws_heldBlockS_l0 L') q6 (by rw [q4]; exact h.1) q2 h1 (by omega) ?_ ?_
  · rintro i k a n K ha hi ⟨p0, p1, p2, rfl⟩ hn hk hb
    have t0 := markText_mt (k) (by omega) (by omega)
    have w0 : w64 (k + 1) = k + 1 := w64_id (by omega)
    have t1 := markText_mt (k + 1) (by omega) (by omega)
    have w1 : w64 (k + 1 + 1) = k + 1 + 1 := w64_id (by omega)
    have t2 := markText_mt (k + 1 + 1) (by omega) (by omega)
    have w2 : w64 (k + 1 + 1 + 1) = k + 1 + 1 + 1 := w64_id (by omega)
    have eK : k + 1 + 1 + 1 = k + (3) := by omega
    have wE : w64 (k + (3)) = k + (3) := w64_id (by omega)
    simp only [F_laws_heldBlockS_l0, int_lt (get_lt ha), ix_get ha, Option.bind_some, bif_t, w64_succ hi, Int.toNat_natCast, t0, p0, w0, t1, p1, w1, t2, p2, w2, ne_eq, not_true_eq_false, decide_false, bif_f, eK, wE]
  · intro k K; simp [F_laws_heldBlockS_l0]
end Go.Ab
