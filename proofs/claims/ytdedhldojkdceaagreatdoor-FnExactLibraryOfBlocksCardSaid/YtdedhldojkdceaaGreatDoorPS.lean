/- The laws' helpers over plain data (own text, printed by sup.py). -/
import Derived.Test.YtdedhldojkdceaaGreatDoorU1
import Derived.Test.YtdedhldojkdceaaGreatDoorPM
set_option linter.unusedVariables false
set_option linter.unusedSimpArgs false
namespace Go.Ab
open Go.RowKit
def SmS (s : List UInt8) : Prop := (s.length : Int) ≤ 1048576
def SmL {α : Type} (P : α → Prop) (L : List α) : Prop := (L.length : Int) ≤ 1048576 ∧ ∀ a ∈ L, P a
theorem int_lt_set {α : Type} {L : List α} {i : Nat} {a : α} : (List.set L i a).length = L.length := List.length_set
theorem ix_set {α : Type} {L : List α} {i : Nat} {a : α} (h : i < L.length) : ix (L.set i a) (i : Int) = some a := by rw [ix_nat, List.getElem?_set_self h]
/-- The text of a mark. -/
noncomputable def mt (k : Int) : List UInt8 := (F_laws_markText k).getD []
theorem markText_mt (k : Int) (h1 : 1 ≤ k) (h2 : k ≤ 4611686018427387904) : F_laws_markText k = some (mt k) := by
  have key : ∃ r, F_laws_markText k = some r ∧ True := by
    unfold F_laws_markText
    rw [decide_eq_false (by omega), bif_f]
    refine loop_mu (fun s => 0 ≤ s.1 ∧ s.1 + (s.2.length : Int) ≤ 4611686018427387904) (fun s => s.1.toNat) ⟨by dsimp only; omega, by simp; omega⟩ (lt_lim (by dsimp only; omega)) ?_
    rintro ⟨v, t⟩ K ⟨q1, q2⟩ hK
    dsimp only at q1 q2 hK
    have hb : ∀ x : Int, (bytesI [x]).length = 1 := fun _ => rfl
    simp only [F_laws_markText_l0, bif_dec]
    split
    · rename_i hv
      have e1 : Int.tdiv v 10 = v / 10 := Int.tdiv_eq_ediv_of_nonneg q1
      rw [need_true (by rw [hb]; omega), e1, w64_id (by omega)]
      refine hK _ ⟨by dsimp only; omega, ?_⟩ (by dsimp only; omega)
      simp only [List.length_append, hb]
      omega
    · rw [need_true (by simp only [List.length_cons, List.length_nil]; omega)]
      exact ⟨_, rfl, trivial⟩
  obtain ⟨r, h, _⟩ := key
  rw [mt, h]; rfl
noncomputable def OkBlock (p : TBlock) : Prop := OkS p.1 ∧ OkS p.2.1 ∧ OkS p.2.2
noncomputable def SmBlock (p : TBlock) : Prop := SmS p.1 ∧ SmS p.2.1 ∧ SmS p.2.2
noncomputable def CtBlock (p : TBlock) : Prop := (fun _ => True) p.1 ∧ (fun _ => True) p.2.1 ∧ (fun _ => True) p.2.2
theorem ctsm_Block (p : TBlock) (h : SmBlock p) : CtBlock p := by
  obtain ⟨h0, h1, h2⟩ := h
  exact ⟨trivial, trivial, trivial⟩
theorem dec_Block (x : V) (h : Elem true [.str, .str, .str] x) : ∃ p : TBlock, x = eBlock p ∧ OkBlock p := by
  obtain ⟨h1, h2⟩ := h
  have h1 : x = .agg x.cells := h1
  obtain ⟨v0, l0, hc, k0, v1, l1, rfl, k1, v2, l2, rfl, k2, rfl⟩ := h2
  obtain ⟨a0, rfl, b0⟩ := dec_str k0
  obtain ⟨a1, rfl, b1⟩ := dec_str k1
  obtain ⟨a2, rfl, b2⟩ := dec_str k2
  exact ⟨(a0, a1, a2), by rw [h1, hc]; rfl, ⟨b0, b1, b2⟩⟩
theorem sz_Block (p : TBlock) (hp : OkBlock p) (l : Int) (h0 : 0 ≤ l) (hl : l ≤ 1048576) : ∃ r, F_laws_szBlock p l = some r ∧ (r ≤ l ∧ (0 ≤ r → SmBlock p)) := by
  obtain ⟨o0, o1, o2⟩ := hp
  unfold F_laws_szBlock
  have q0 : p.1.length ≤ 9223372036854775807 := o0
  rw [w64_id (by omega)]
  rw [bif_dec]
  split
  · exact ⟨_, rfl, by omega, by omega⟩
  have q1 : p.2.1.length ≤ 9223372036854775807 := o1
  rw [w64_id (by omega)]
  rw [bif_dec]
  split
  · exact ⟨_, rfl, by omega, by omega⟩
  have q2 : p.2.2.length ≤ 9223372036854775807 := o2
  rw [w64_id (by omega)]
  rw [bif_dec]
  split
  · exact ⟨_, rfl, by omega, by omega⟩
  exact ⟨_, rfl, by omega, fun _ => ⟨(by show (p.1.length : Int) ≤ 1048576; omega), (by show (p.2.1.length : Int) ≤ 1048576; omega), (by show (p.2.2.length : Int) ≤ 1048576; omega)⟩⟩
theorem to_Block (p : TBlock) (h : CtBlock p) : F_laws_toBlock p = some p := by
  obtain ⟨s0, s1, s2⟩ := h
  unfold F_laws_toBlock
  rfl
theorem eq_Block (p : TBlock) (h : CtBlock p) : F_laws_eqBlock p p = some true := by
  obtain ⟨s0, s1, s2⟩ := h
  simp [F_laws_eqBlock]
theorem sz_BlockS (L : List TBlock) (hp : (OkL OkBlock) L) (l : Int) (h0 : 0 ≤ l) (hl : l ≤ 1048576) : ∃ r, F_laws_szBlockS L l = some r ∧ (r ≤ l ∧ (0 ≤ r → (SmL SmBlock) L)) := by
  obtain ⟨hL, hs⟩ := hp
  unfold F_laws_szBlockS
  rw [w64_id (by omega)]
  simp only [bif_dec]
  split
  · exact ⟨_, rfl, by omega, by omega⟩
  · refine loop_ex (L := L) (fun i s => s.2 = (i : Int) ∧ 0 ≤ s.1 ∧ s.1 ≤ l - (L.length : Int) ∧ ∀ x ∈ L.take i, SmBlock x) hL ⟨rfl, by omega, by simp, by simp⟩ ?_ ?_
    · rintro i ⟨m, j⟩ k a ha hi ⟨rfl, h1, h2, h3⟩ hk
      dsimp only at h1 h2 h3
      have oa := hs a (get_mem ha)
      obtain ⟨r, q1, q2, q3⟩ := sz_Block a oa m h1 (by omega)
      simp only [F_laws_szBlockS_l0, int_lt (get_lt ha), ix_get ha, Option.bind_some, bif_t, bif_dec, q1]
      split
      · exact ⟨_, rfl, by omega, by omega⟩
      · rw [w64_succ hi]
        refine hk _ ⟨rfl, by dsimp only; omega, by dsimp only; omega, ?_⟩
        intro x hx
        rw [take_succ ha] at hx
        rcases List.mem_append.1 hx with hx | hx
        · exact h3 x hx
        · rw [List.mem_singleton.1 hx]; exact (q3 (by omega))
    · rintro ⟨m, j⟩ k ⟨rfl, h1, h2, h3⟩
      dsimp only at h1 h2 h3
      simp only [F_laws_szBlockS_l0, int_lt_self, bif_f]
      rw [take_all (Nat.le_refl _)] at h3
      exact ⟨_, rfl, by omega, fun _ => ⟨by omega, h3⟩⟩
theorem to_BlockS (L : List TBlock) (h : (SmL CtBlock) L) : F_laws_toBlockS L = some L := by
  have hL := h.1
  unfold F_laws_toBlockS
  rw [need_true (by omega)]
  have := loop_ex (body := F_laws_toBlockS_l0 L) (L := L) (s0 := (0, List.replicate ((L.length : Int)).toNat (([], [], []) : TBlock))) (Q := fun r => r = L) (fun i s => s.1 = (i : Int) ∧ s.2.length = L.length ∧ s.2.take i = L.take i) (by omega) ⟨rfl, by simp, by simp⟩ ?_ ?_
  · obtain ⟨r, h1, rfl⟩ := this; exact h1
  · rintro i ⟨j, M⟩ k a ha hi ⟨rfl, h1, h2⟩ hk
    dsimp only at h1 h2
    have hl := get_lt ha
    obtain ⟨b, hb⟩ := get_some (L := M) (n := i) (by omega)
    simp only [F_laws_toBlockS_l0, int_lt hl, ix_get ha, ix_get hb, Option.bind_some, bif_t, w64_succ hi, Int.toNat_natCast, to_Block a (h.2 a (get_mem ha))]
    refine hk _ ⟨rfl, by simpa using h1, ?_⟩
    dsimp only
    rw [take_succ ha, take_succ (set_get hb), List.take_set_of_le (Nat.le_refl _), h2]
  · rintro ⟨j, M⟩ k ⟨rfl, h1, h2⟩
    dsimp only at h1 h2
    simp only [F_laws_toBlockS_l0, int_lt_self, bif_f]
    rw [take_all (Nat.le_of_eq h1), take_all (Nat.le_refl _)] at h2
    exact ⟨_, rfl, h2⟩
theorem eq_BlockS (L : List TBlock) (h : (SmL CtBlock) L) : F_laws_eqBlockS L L = some true := by
  have hL := h.1
  unfold F_laws_eqBlockS
  simp only [ne_eq, not_true_eq_false, decide_false, bif_f]
  rw [loop_all (L := L) (fun _ => true) (by omega)]
  · simp
  · intro i k a ha hi
    simp only [F_laws_eqBlockS_l0, int_lt (get_lt ha), ix_get ha, w64_succ hi, Option.bind_some, bif_t, eq_Block a (h.2 a (get_mem ha)), Bool.not_true, bif_f]
  · intro k; simp [F_laws_eqBlockS_l0]
noncomputable def HBlockS (x : TBlock) (k n : Int) : Prop := 0 ≤ n
theorem mk_BlockS (L : List TBlock) (h : (SmL CtBlock) L) (k : Int) (h1 : 1 ≤ k) (h2 : k + 3145728 ≤ 4611686018427387904) : ∃ L' n, F_laws_markBlockS L k = some (L', k + n) ∧ 0 ≤ n ∧ n ≤ 3145728 ∧ L'.length = L.length ∧ (SmL CtBlock) L' ∧ True := by
  have key : ∃ L' n, loop F_laws_markBlockS_l0 (k, 0, L) = some (L', k + n) ∧ 0 ≤ n ∧ n ≤ 1048576 * 3 ∧ L'.length = L.length ∧ (∀ a ∈ L', CtBlock a) ∧ Marked HBlockS L' k n := by
    refine mark_loop HBlockS CtBlock 3 (by omega) L k h.1 h1 (by omega) h.2 ?_ ?_
    · intro i k M a K ha hi hp hk hb
      have t0 := markText_mt (k) (by omega) (by omega)
      have w0 : w64 (k + 1) = k + 1 := w64_id (by omega)
      have t1 := markText_mt (k + 1) (by omega) (by omega)
      have w1 : w64 (k + 1 + 1) = k + 1 + 1 := w64_id (by omega)
      have t2 := markText_mt (k + 1 + 1) (by omega) (by omega)
      have w2 : w64 (k + 1 + 1 + 1) = k + 1 + 1 + 1 := w64_id (by omega)
      refine ⟨(mt (k), mt (k + 1), mt (k + 1 + 1)), 3, (by show (0 : Int) ≤ 3; omega), by omega, by omega, ⟨trivial, trivial, trivial⟩, ?_⟩
      have eK : k + 1 + 1 + 1 = k + (3) := by omega
      have wE : w64 (k + (3)) = k + (3) := w64_id (by omega)
      simp only [F_laws_markBlockS_l0, int_lt (get_lt ha), ix_get ha, Option.bind_some, bif_t, w64_succ hi, Int.toNat_natCast, int_lt_set, ix_set (get_lt ha), List.set_set, List.length_set, t0, w0, t1, w1, t2, w2, eK, wE]
    · intro k M K; simp [F_laws_markBlockS_l0]
  obtain ⟨L', n, q1, q2, q3, q4, q5, q6⟩ := key
  refine ⟨L', n, q1, q2, by omega, q4, ⟨by rw [q4]; exact h.1, q5⟩, ?_⟩
  trivial
noncomputable def OkNote (p : TNote) : Prop := OkI p.1 ∧ OkI p.2
noncomputable def SmNote (p : TNote) : Prop := (fun _ => True) p.1 ∧ (fun _ => True) p.2
noncomputable def CtNote (p : TNote) : Prop := (fun _ => True) p.1 ∧ (fun _ => True) p.2
theorem ctsm_Note (p : TNote) (h : SmNote p) : CtNote p := by
  obtain ⟨h0, h1⟩ := h
  exact ⟨trivial, trivial⟩
theorem dec_Note (x : V) (h : Elem true [.int .i64, .int .i64] x) : ∃ p : TNote, x = eNote p ∧ OkNote p := by
  obtain ⟨h1, h2⟩ := h
  have h1 : x = .agg x.cells := h1
  obtain ⟨v0, l0, hc, k0, v1, l1, rfl, k1, rfl⟩ := h2
  obtain ⟨a0, rfl, b0⟩ := dec_i64 k0
  obtain ⟨a1, rfl, b1⟩ := dec_i64 k1
  exact ⟨(a0, a1), by rw [h1, hc]; rfl, ⟨b0, b1⟩⟩
theorem eq_Note (p : TNote) (h : CtNote p) : F_laws_eqNote p p = some true := by
  obtain ⟨s0, s1⟩ := h
  simp [F_laws_eqNote]
theorem eq_NoteS (L : List TNote) (h : (SmL CtNote) L) : F_laws_eqNoteS L L = some true := by
  have hL := h.1
  unfold F_laws_eqNoteS
  simp only [ne_eq, not_true_eq_false, decide_false, bif_f]
  rw [loop_all (L := L) (fun _ => true) (by omega)]
  · simp
  · intro i k a ha hi
    simp only [F_laws_eqNoteS_l0, int_lt (get_lt ha), ix_get ha, w64_succ hi, Option.bind_some, bif_t, eq_Note a (h.2 a (get_mem ha)), Bool.not_true, bif_f]
  · intro k; simp [F_laws_eqNoteS_l0]
noncomputable def HNoteS (x : TNote) (k n : Int) : Prop := x.1 = k ∧ x.2 = k + 1 ∧ n = 2
theorem mk_NoteS (L : List TNote) (h : (SmL CtNote) L) (k : Int) (h1 : 1 ≤ k) (h2 : k + 2097152 ≤ 4611686018427387904) : ∃ L' n, F_laws_markNoteS L k = some (L', k + n) ∧ 0 ≤ n ∧ n ≤ 2097152 ∧ L'.length = L.length ∧ (SmL CtNote) L' ∧ F_laws_heldNoteS L' k = some (k + n) := by
  have key : ∃ L' n, loop F_laws_markNoteS_l0 (k, 0, L) = some (L', k + n) ∧ 0 ≤ n ∧ n ≤ 1048576 * 2 ∧ L'.length = L.length ∧ (∀ a ∈ L', CtNote a) ∧ Marked HNoteS L' k n := by
    refine mark_loop HNoteS CtNote 2 (by omega) L k h.1 h1 (by omega) h.2 ?_ ?_
    · intro i k M a K ha hi hp hk hb
      have w0 : w64 (k + 1) = k + 1 := w64_id (by omega)
      have w1 : w64 (k + 1 + 1) = k + 1 + 1 := w64_id (by omega)
      refine ⟨(k, k + 1), 2, ⟨rfl, rfl, rfl⟩, by omega, by omega, ⟨trivial, trivial⟩, ?_⟩
      have eK : k + 1 + 1 = k + (2) := by omega
      have wE : w64 (k + (2)) = k + (2) := w64_id (by omega)
      simp only [F_laws_markNoteS_l0, int_lt (get_lt ha), ix_get ha, Option.bind_some, bif_t, w64_succ hi, Int.toNat_natCast, int_lt_set, ix_set (get_lt ha), List.set_set, List.length_set, w0, w1, eK, wE]
    · intro k M K; simp [F_laws_markNoteS_l0]
  obtain ⟨L', n, q1, q2, q3, q4, q5, q6⟩ := key
  refine ⟨L', n, q1, q2, by omega, q4, ⟨by rw [q4]; exact h.1, q5⟩, ?_⟩
  refine held_loop (body := F_laws_heldNoteS_l0 L') q6 (by rw [q4]; exact h.1) q2 h1 (by omega) ?_ ?_
  · rintro i k a n K ha hi ⟨p0, p1, rfl⟩ hn hk hb
    have w0 : w64 (k + 1) = k + 1 := w64_id (by omega)
    have w1 : w64 (k + 1 + 1) = k + 1 + 1 := w64_id (by omega)
    have eK : k + 1 + 1 = k + (2) := by omega
    have wE : w64 (k + (2)) = k + (2) := w64_id (by omega)
    have dE : decide ((k + (2) : Int) < 0) = false := decide_eq_false (by omega)
    simp only [F_laws_heldNoteS_l0, int_lt (get_lt ha), ix_get ha, Option.bind_some, bif_t, w64_succ hi, Int.toNat_natCast, p0, w0, p1, w1, ne_eq, not_true_eq_false, decide_false, bif_f, eK, wE, dE]
  · intro k K; simp [F_laws_heldNoteS_l0]
noncomputable def OkNamedMelody (p : TNamedMelody) : Prop := OkS p.1 ∧ (OkL OkNote) p.2
noncomputable def SmNamedMelody (p : TNamedMelody) : Prop := SmS p.1 ∧ (SmL SmNote) p.2
noncomputable def CtNamedMelody (p : TNamedMelody) : Prop := (fun _ => True) p.1 ∧ (SmL CtNote) p.2
theorem ctsm_NamedMelody (p : TNamedMelody) (h : SmNamedMelody p) : CtNamedMelody p := by
  obtain ⟨h0, h1⟩ := h
  exact ⟨trivial, ⟨h1.1, fun a ha => (ctsm_Note a (h1.2 a ha))⟩⟩
theorem dec_NamedMelody (x : V) (h : Elem true [.str, .sl 2 true [.int .i64, .int .i64]] x) : ∃ p : TNamedMelody, x = eNamedMelody p ∧ OkNamedMelody p := by
  obtain ⟨h1, h2⟩ := h
  have h1 : x = .agg x.cells := h1
  obtain ⟨v0, l0, hc, k0, v1, l1, rfl, k1, rfl⟩ := h2
  obtain ⟨a0, rfl, b0⟩ := dec_str k0
  obtain ⟨a1, rfl, b1⟩ := (dec_sl dec_Note) k1
  exact ⟨(a0, a1), by rw [h1, hc]; rfl, ⟨b0, b1⟩⟩
theorem eq_NamedMelody (p : TNamedMelody) (h : CtNamedMelody p) : F_laws_eqNamedMelody p p = some true := by
  obtain ⟨s0, s1⟩ := h
  simp [F_laws_eqNamedMelody, eq_NoteS _ s1]
theorem eq_NamedMelodyS (L : List TNamedMelody) (h : (SmL CtNamedMelody) L) : F_laws_eqNamedMelodyS L L = some true := by
  have hL := h.1
  unfold F_laws_eqNamedMelodyS
  simp only [ne_eq, not_true_eq_false, decide_false, bif_f]
  rw [loop_all (L := L) (fun _ => true) (by omega)]
  · simp
  · intro i k a ha hi
    simp only [F_laws_eqNamedMelodyS_l0, int_lt (get_lt ha), ix_get ha, w64_succ hi, Option.bind_some, bif_t, eq_NamedMelody a (h.2 a (get_mem ha)), Bool.not_true, bif_f]
  · intro k; simp [F_laws_eqNamedMelodyS_l0]
noncomputable def HNamedMelodyS (x : TNamedMelody) (k n : Int) : Prop := ∃ n1 : Int, x.1 = mt (k) ∧ F_laws_heldNoteS x.2 (k + 1) = some (k + 1 + n1) ∧ 0 ≤ n1 ∧ n = 1 + n1
theorem mk_NamedMelodyS (L : List TNamedMelody) (h : (SmL CtNamedMelody) L) (k : Int) (h1 : 1 ≤ k) (h2 : k + 2199024304128 ≤ 4611686018427387904) : ∃ L' n, F_laws_markNamedMelodyS L k = some (L', k + n) ∧ 0 ≤ n ∧ n ≤ 2199024304128 ∧ L'.length = L.length ∧ (SmL CtNamedMelody) L' ∧ F_laws_heldNamedMelodyS L' k = some (k + n) := by
  have key : ∃ L' n, loop F_laws_markNamedMelodyS_l0 (k, 0, L) = some (L', k + n) ∧ 0 ≤ n ∧ n ≤ 1048576 * 2097153 ∧ L'.length = L.length ∧ (∀ a ∈ L', CtNamedMelody a) ∧ Marked HNamedMelodyS L' k n := by
    refine mark_loop HNamedMelodyS CtNamedMelody 2097153 (by omega) L k h.1 h1 (by omega) h.2 ?_ ?_
    · intro i k M a K ha hi hp hk hb
      have t0 := markText_mt (k) (by omega) (by omega)
      have w0 : w64 (k + 1) = k + 1 := w64_id (by omega)
      obtain ⟨b1, n1, q1, r1, s1, l1, c1, e1⟩ := mk_NoteS a.2 hp.2 (k + 1) (by omega) (by omega)
      refine ⟨(mt (k), b1), 1 + n1, ⟨n1, rfl, e1, r1, rfl⟩, by omega, by omega, ⟨trivial, c1⟩, ?_⟩
      have eK : k + 1 + n1 = k + (1 + n1) := by omega
      have wE : w64 (k + (1 + n1)) = k + (1 + n1) := w64_id (by omega)
      simp only [F_laws_markNamedMelodyS_l0, int_lt (get_lt ha), ix_get ha, Option.bind_some, bif_t, w64_succ hi, Int.toNat_natCast, int_lt_set, ix_set (get_lt ha), List.set_set, List.length_set, t0, w0, q1, need_true l1, eK, wE]
    · intro k M K; simp [F_laws_markNamedMelodyS_l0]
  obtain ⟨L', n, q1, q2, q3, q4, q5, q6⟩ := key
  refine ⟨L', n, q1, q2, by omega, q4, ⟨by rw [q4]; exact h.1, q5⟩, ?_⟩
  refine held_loop (body := F_laws_heldNamedMelodyS_l0 L') q6 (by rw [q4]; exact h.1) q2 h1 (by omega) ?_ ?_
  · rintro i k a n K ha hi ⟨n1, p0, p1, z1, rfl⟩ hn hk hb
    have t0 := markText_mt (k) (by omega) (by omega)
    have w0 : w64 (k + 1) = k + 1 := w64_id (by omega)
    have d1 : decide (((k + 1) + n1 : Int) < 0) = false := decide_eq_false (by omega)
    have eK : k + 1 + n1 = k + (1 + n1) := by omega
    have wE : w64 (k + (1 + n1)) = k + (1 + n1) := w64_id (by omega)
    have dE : decide ((k + (1 + n1) : Int) < 0) = false := decide_eq_false (by omega)
    simp only [F_laws_heldNamedMelodyS_l0, int_lt (get_lt ha), ix_get ha, Option.bind_some, bif_t, w64_succ hi, Int.toNat_natCast, t0, p0, w0, p1, d1, ne_eq, not_true_eq_false, decide_false, bif_f, eK, wE, dE]
  · intro k K; simp [F_laws_heldNamedMelodyS_l0]
end Go.Ab
