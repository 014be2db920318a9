/- The laws' helpers over plain data (own text, printed by sup.py). -/
import Derived.Test.YtcncimahmacpoaaGreatDoorU0
import Derived.Test.YtcncimahmacpoaaGreatDoorPM
set_option linter.unusedVariables false
set_option linter.unusedSimpArgs false
namespace Go.Ab
open Go.RowKit
def SmS (s : List UInt8) : Prop := (s.length : Int) ≤ 1048576
def SmL {α : Type} (P : α → Prop) (L : List α) : Prop := (L.length : Int) ≤ 1048576 ∧ ∀ a ∈ L, P a
theorem int_lt_set {α : Type} {L : List α} {i : Nat} {a : α} : (List.set L i a).length = L.length := List.length_set
theorem ix_set {α : Type} {L : List α} {i : Nat} {a : α} (h : i < L.length) : ix (L.set i a) (i : Int) = some a := by rw [ix_nat, List.getElem?_set_self h]
/-- The text of a mark. -/
noncomputable def mt (k : Int) : List UInt8 := (F_laws_markText k).getD []
theorem markText_mt (k : Int) (h1 : 1 ≤ k) (h2 : k ≤ 4611686018427387904) : F_laws_markText k = some (mt k) := by
  have key : ∃ r, F_laws_markText k = some r ∧ True := by
    unfold F_laws_markText
    rw [decide_eq_false (by omega), bif_f]
    refine loop_mu (fun s => 0 ≤ s.1 ∧ s.1 + (s.2.length : Int) ≤ 4611686018427387904) (fun s => s.1.toNat) ⟨by dsimp only; omega, by simp; omega⟩ (lt_lim (by dsimp only; omega)) ?_
    rintro ⟨v, t⟩ K ⟨q1, q2⟩ hK
    dsimp only at q1 q2 hK
    have hb : ∀ x : Int, (bytesI [x]).length = 1 := fun _ => rfl
    simp only [F_laws_markText_l0, bif_dec]
    split
    · rename_i hv
      have e1 : Int.tdiv v 10 = v / 10 := Int.tdiv_eq_ediv_of_nonneg q1
      rw [need_true (by rw [hb]; omega), e1, w64_id (by omega)]
      refine hK _ ⟨by dsimp only; omega, ?_⟩ (by dsimp only; omega)
      simp only [List.length_append, hb]
      omega
    · rw [need_true (by simp only [List.length_cons, List.length_nil]; omega)]
      exact ⟨_, rfl, trivial⟩
  obtain ⟨r, h, _⟩ := key
  rw [mt, h]; rfl
theorem eq_StringS (L : List (List UInt8)) (h : (SmL (fun _ => True)) L) : F_laws_eqStringS L L = some true := by
  have hL := h.1
  unfold F_laws_eqStringS
  simp only [ne_eq, not_true_eq_false, decide_false, bif_f]
  rw [loop_all (L := L) (fun _ => true) (by omega)]
  · simp
  · intro i k a ha hi
    simp only [F_laws_eqStringS_l0, int_lt (get_lt ha), ix_get ha, w64_succ hi, Option.bind_some, bif_t, ne_eq, not_true_eq_false, decide_false, bif_f]
  · intro k; simp [F_laws_eqStringS_l0]
noncomputable def HStringS (x : List UInt8) (k n : Int) : Prop := x = mt k ∧ n = 1
theorem mk_StringS (L : List (List UInt8)) (h : (SmL (fun _ => True)) L) (k : Int) (h1 : 1 ≤ k) (h2 : k + 1048576 ≤ 4611686018427387904) : ∃ L' n, F_laws_markStringS L k = some (L', k + n) ∧ 0 ≤ n ∧ n ≤ 1048576 ∧ L'.length = L.length ∧ (SmL (fun _ => True)) L' ∧ F_laws_heldStringS L' k = some (k + n) := by
  have key : ∃ L' n, loop F_laws_markStringS_l0 (k, 0, L) = some (L', k + n) ∧ 0 ≤ n ∧ n ≤ 1048576 * 1 ∧ L'.length = L.length ∧ (∀ a ∈ L', (fun _ => True) a) ∧ Marked HStringS L' k n := by
    refine mark_loop HStringS (fun _ => True) 1 (by omega) L k h.1 h1 (by omega) h.2 ?_ ?_
    · intro i k M a K ha hi hp hk hb
      refine ⟨mt k, 1, ⟨rfl, rfl⟩, by omega, by omega, trivial, ?_⟩
      have w1 : w64 (k + 1) = k + 1 := w64_id (by omega)
      simp only [F_laws_markStringS_l0, markText_mt k (by omega) (by omega), int_lt (get_lt ha), ix_get ha, Option.bind_some, bif_t, w64_succ hi, Int.toNat_natCast, w1]
    · intro k M K; simp [F_laws_markStringS_l0]
  obtain ⟨L', n, q1, q2, q3, q4, q5, q6⟩ := key
  refine ⟨L', n, q1, q2, by omega, q4, ⟨by rw [q4]; exact h.1, q5⟩, ?_⟩
  refine held_loop (body := F_laws_heldStringS_l0 L') q6 (by rw [q4]; exact h.1) q2 h1 (by omega) ?_ ?_
  · rintro i k a n K ha hi ⟨he, rfl⟩ hn hk hb
    have w1 : w64 (k + 1) = k + 1 := w64_id (by omega)
    simp only [F_laws_heldStringS_l0, he, markText_mt k (by omega) (by omega), int_lt (get_lt ha), ix_get ha, Option.bind_some, bif_t, w64_succ hi, Int.toNat_natCast, w1, ne_eq, not_true_eq_false, decide_false, bif_f]
  · intro k K; simp [F_laws_heldStringS_l0]
end Go.Ab
