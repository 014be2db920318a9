/- The laws' helpers over plain data (own text, printed by sup.py). -/
import Derived.Test.YtphjibapchafkaaDoorU1
import Derived.Test.YtphjibapchafkaaDoorPM
set_option linter.unusedVariables false
set_option linter.unusedSimpArgs false
namespace Go.Ab
open Go.RowKit
def SmS (s : List UInt8) : Prop := (s.length : Int) ≤ 1048576
def SmL {α : Type} (P : α → Prop) (L : List α) : Prop := (L.length : Int) ≤ 1048576 ∧ ∀ a ∈ L, P a
theorem int_lt_set {α : Type} {L : List α} {i : Nat} {a : α} : (List.set L i a).length = L.length := List.length_set
theorem ix_set {α : Type} {L : List α} {i : Nat} {a : α} (h : i < L.length) : ix (L.set i a) (i : Int) = some a := by rw [ix_nat, List.getElem?_set_self h]
/-- The text of a mark. -/
noncomputable def mt (k : Int) : List UInt8 := (F_laws_markText k).getD []
theorem markText_mt (k : Int) (h1 : 1 ≤ k) (h2 : k ≤ 4611686018427387904) : F_laws_markText k = some (mt k) := by
  have key : ∃ r, F_laws_markText k = some r ∧ True := by
    unfold F_laws_markText
    rw [decide_eq_false (by omega), bif_f]
    refine loop_mu (fun s => 0 ≤ s.1 ∧ s.1 + (s.2.length : Int) ≤ 4611686018427387904) (fun s => s.1.toNat) ⟨by dsimp only; omega, by simp; omega⟩ (lt_lim (by dsimp only; omega)) ?_
    rintro ⟨v, t⟩ K ⟨q1, q2⟩ hK
    dsimp only at q1 q2 hK
    have hb : ∀ x : Int, (bytesI [x]).length = 1 := fun _ => rfl
    simp only [F_laws_markText_l0, bif_dec]
    split
    · rename_i hv
      have e1 : Int.tdiv v 10 = v / 10 := Int.tdiv_eq_ediv_of_nonneg q1
      rw [need_true (by rw [hb]; omega), e1, w64_id (by omega)]
      refine hK _ ⟨by dsimp only; omega, ?_⟩ (by dsimp only; omega)
      simp only [List.length_append, hb]
      omega
    · rw [need_true (by simp only [List.length_cons, List.length_nil]; omega)]
      exact ⟨_, rfl, trivial⟩
  obtain ⟨r, h, _⟩ := key
  rw [mt, h]; rfl
theorem eq_StringS (L : List (List UInt8)) (h : (SmL (fun _ => True)) L) : F_laws_eqStringS L L = some true := by
  have hL := h.1
  unfold F_laws_eqStringS
  simp only [ne_eq, not_true_eq_false, decide_false, bif_f]
  rw [loop_all (L := L) (fun _ => true) (by omega)]
  · simp
  · intro i k a ha hi
    simp only [F_laws_eqStringS_l0, int_lt (get_lt ha), ix_get ha, w64_succ hi, Option.bind_some, bif_t, ne_eq, not_true_eq_false, decide_false, bif_f]
  · intro k; simp [F_laws_eqStringS_l0]
noncomputable def HStringS (x : List UInt8) (k n : Int) : Prop := x = mt k ∧ n = 1
theorem mk_StringS (L : List (List UInt8)) (h : (SmL (fun _ => True)) L) (k : Int) (h1 : 1 ≤ k) (h2 : k + 1048576 ≤ 4611686018427387904) : ∃ L' n, F_laws_markStringS L k = some (L', k + n) ∧ 0 ≤ n ∧ n ≤ 1048576 ∧ L'.length = L.length ∧ (SmL (fun _ => True)) L' ∧ F_laws_heldStringS L' k = some (k + n) := by
  have key : ∃ L' n, loop F_laws_markStringS_l0 (k, 0, L) = some (L', k + n) ∧ 0 ≤ n ∧ n ≤ 1048576 * 1 ∧ L'.length = L.length ∧ (∀ a ∈ L', (fun _ => True) a) ∧ Marked HStringS L' k n := by
    refine mark_loop HStringS (fun _ => True) 1 (by omega) L k h.1 h1 (by omega) h.2 ?_ ?_
    · intro i k M a K ha hi hp hk hb
      refine ⟨mt k, 1, ⟨rfl, rfl⟩, by omega, by omega, trivial, ?_⟩
      have w1 : w64 (k + 1) = k + 1 := w64_id (by omega)
      simp only [F_laws_markStringS_l0, markText_mt k (by omega) (by omega), int_lt (get_lt ha), ix_get ha, Option.bind_some, bif_t, w64_succ hi, Int.toNat_natCast, w1]
    · intro k M K; simp [F_laws_markStringS_l0]
  obtain ⟨L', n, q1, q2, q3, q4, q5, q6⟩ := key
  refine ⟨L', n, q1, q2, by omega, q4, ⟨by rw [q4]; exact h.1, q5⟩, ?_⟩
  refine held_loop (body := F_laws_heldStringS_l0 L') q6 (by rw [q4]; exact h.1) q2 h1 (by omega) ?_ ?_
  · rintro i k a n K ha hi ⟨he, rfl⟩ hn hk hb
    have w1 : w64 (k + 1) = k + 1 := w64_id (by omega)
    simp only [F_laws_heldStringS_l0, he, markText_mt k (by omega) (by omega), int_lt (get_lt ha), ix_get ha, Option.bind_some, bif_t, w64_succ hi, Int.toNat_natCast, w1, ne_eq, not_true_eq_false, decide_false, bif_f]
  · intro k K; simp [F_laws_heldStringS_l0]
noncomputable def OkPerson (p : TPerson) : Prop := OkS p.1 ∧ OkI p.2.1 ∧ (OkL OkS) p.2.2
noncomputable def SmPerson (p : TPerson) : Prop := SmS p.1 ∧ (fun _ => True) p.2.1 ∧ (SmL SmS) p.2.2
noncomputable def CtPerson (p : TPerson) : Prop := (fun _ => True) p.1 ∧ (fun _ => True) p.2.1 ∧ (SmL (fun _ => True)) p.2.2
theorem ctsm_Person (p : TPerson) (h : SmPerson p) : CtPerson p := by
  obtain ⟨h0, h1, h2⟩ := h
  exact ⟨trivial, trivial, ⟨h2.1, fun a ha => trivial⟩⟩
theorem dec_Person (x : V) (h : Elem true [.str, .int .i64, .sl 1 false [.str]] x) : ∃ p : TPerson, x = ePerson p ∧ OkPerson p := by
  obtain ⟨h1, h2⟩ := h
  have h1 : x = .agg x.cells := h1
  obtain ⟨v0, l0, hc, k0, v1, l1, rfl, k1, v2, l2, rfl, k2, rfl⟩ := h2
  obtain ⟨a0, rfl, b0⟩ := dec_str k0
  obtain ⟨a1, rfl, b1⟩ := dec_i64 k1
  obtain ⟨a2, rfl, b2⟩ := (dec_sl (dec_one fun _ h => dec_str h)) k2
  exact ⟨(a0, a1, a2), by rw [h1, hc]; rfl, ⟨b0, b1, b2⟩⟩
theorem eq_Person (p : TPerson) (h : CtPerson p) : F_laws_eqPerson p p = some true := by
  obtain ⟨s0, s1, s2⟩ := h
  simp [F_laws_eqPerson, eq_StringS _ s2]
theorem eq_PersonS (L : List TPerson) (h : (SmL CtPerson) L) : F_laws_eqPersonS L L = some true := by
  have hL := h.1
  unfold F_laws_eqPersonS
  simp only [ne_eq, not_true_eq_false, decide_false, bif_f]
  rw [loop_all (L := L) (fun _ => true) (by omega)]
  · simp
  · intro i k a ha hi
    simp only [F_laws_eqPersonS_l0, int_lt (get_lt ha), ix_get ha, w64_succ hi, Option.bind_some, bif_t, eq_Person a (h.2 a (get_mem ha)), Bool.not_true, bif_f]
  · intro k; simp [F_laws_eqPersonS_l0]
noncomputable def HPersonS (x : TPerson) (k n : Int) : Prop := ∃ n2 : Int, x.1 = mt (k) ∧ x.2.1 = k + 1 ∧ F_laws_heldStringS x.2.2 (k + 1 + 1) = some (k + 1 + 1 + n2) ∧ 0 ≤ n2 ∧ n = 2 + n2
theorem mk_PersonS (L : List TPerson) (h : (SmL CtPerson) L) (k : Int) (h1 : 1 ≤ k) (h2 : k + 1099513724928 ≤ 4611686018427387904) : ∃ L' n, F_laws_markPersonS L k = some (L', k + n) ∧ 0 ≤ n ∧ n ≤ 1099513724928 ∧ L'.length = L.length ∧ (SmL CtPerson) L' ∧ F_laws_heldPersonS L' k = some (k + n) := by
  have key : ∃ L' n, loop F_laws_markPersonS_l0 (k, 0, L) = some (L', k + n) ∧ 0 ≤ n ∧ n ≤ 1048576 * 1048578 ∧ L'.length = L.length ∧ (∀ a ∈ L', CtPerson a) ∧ Marked HPersonS L' k n := by
    refine mark_loop HPersonS CtPerson 1048578 (by omega) L k h.1 h1 (by omega) h.2 ?_ ?_
    · intro i k M a K ha hi hp hk hb
      have t0 := markText_mt (k) (by omega) (by omega)
      have w0 : w64 (k + 1) = k + 1 := w64_id (by omega)
      have w1 : w64 (k + 1 + 1) = k + 1 + 1 := w64_id (by omega)
      obtain ⟨b2, n2, q2, r2, s2, l2, c2, e2⟩ := mk_StringS a.2.2 hp.2.2 (k + 1 + 1) (by omega) (by omega)
      refine ⟨(mt (k), k + 1, b2), 2 + n2, ⟨n2, rfl, rfl, e2, r2, rfl⟩, by omega, by omega, ⟨trivial, trivial, c2⟩, ?_⟩
      have eK : k + 1 + 1 + n2 = k + (2 + n2) := by omega
      have wE : w64 (k + (2 + n2)) = k + (2 + n2) := w64_id (by omega)
      simp only [F_laws_markPersonS_l0, int_lt (get_lt ha), ix_get ha, Option.bind_some, bif_t, w64_succ hi, Int.toNat_natCast, int_lt_set, ix_set (get_lt ha), List.set_set, List.length_set, t0, w0, w1, q2, need_true l2, eK, wE]
    · intro k M K; simp [F_laws_markPersonS_l0]
  obtain ⟨L', n, q1, q2, q3, q4, q5, q6⟩ := key
  refine ⟨L', n, q1, q2, by omega, q4, ⟨by rw [q4]; exact h.1, q5⟩, ?_⟩
  refine held_loop (body := F_laws_heldPersonS_l0 L') q6 (by rw [q4]; exact h.1) q2 h1 (by omega) ?_ ?_
  · rintro i k a n K ha hi ⟨n2, p0, p1, p2, z2, rfl⟩ hn hk hb
    have t0 := markText_mt (k) (by omega) (by omega)
    have w0 : w64 (k + 1) = k + 1 := w64_id (by omega)
    have w1 : w64 (k + 1 + 1) = k + 1 + 1 := w64_id (by omega)
    have d2 : decide (((k + 1 + 1) + n2 : Int) < 0) = false := decide_eq_false (by omega)
    have eK : k + 1 + 1 + n2 = k + (2 + n2) := by omega
    have wE : w64 (k + (2 + n2)) = k + (2 + n2) := w64_id (by omega)
    have dE : decide ((k + (2 + n2) : Int) < 0) = false := decide_eq_false (by omega)
    simp only [F_laws_heldPersonS_l0, int_lt (get_lt ha), ix_get ha, Option.bind_some, bif_t, w64_succ hi, Int.toNat_natCast, t0, p0, w0, p1, w1, p2, d2, ne_eq, not_true_eq_false, decide_false, bif_f, eK, wE, dE]
  · intro k K; simp [F_laws_heldPersonS_l0]
end Go.Ab
