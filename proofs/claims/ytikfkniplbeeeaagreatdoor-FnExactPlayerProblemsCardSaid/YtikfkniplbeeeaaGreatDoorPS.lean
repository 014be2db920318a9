import Derived.Test.YtikfkniplbeeeaaGreatDoorU5
import Derived.Test.YtikfkniplbeeeaaGreatDoorPM
set_option linter.unusedVariables false
set_option linter.unusedSimpArgs false
namespace Go.Ab
open Go.RowKit
def SmS (s : List UInt8) : Prop := (s.length : Int) ≤ 1048576
def SmL {α : Type} (P : α → Prop) (L : List α) : Prop := (L.length : Int) ≤ 1048576 ∧ ∀ a ∈ L, P a
theorem int_lt_set {α : Type} {L : List α} {i : Nat} {a : α} : (List.set L i a).length = L.length := List.length_set
theorem ix_set {α : Type} {L : List α} {i : Nat} {a : α} (h : i < L.length) : ix (L.set i a) (i : Int) = some a := by rw [ix_nat, List.getElem?_set_self h]
noncomputable def mt (k : Int) : List UInt8 := (F_laws_markText k).getD []
theorem markText_mt (k : Int) (h1 : 1 ≤ k) (h2 : k ≤ 4611686018427387904) : F_laws_markText k = some (mt k) := by
 have key : ∃ r, F_laws_markText k = some r ∧ True := by
  unfold F_laws_markText
  rw [decide_eq_false (by omega), bif_f]
  refine loop_mu (fun s => 0 ≤ s.1 ∧ s.1 + (s.2.length : Int) ≤ 4611686018427387904) (fun s => s.1.toNat) ⟨by dsimp only; omega, by simp; omega⟩ (lt_lim (by dsimp only; omega)) ?_
  rintro ⟨v, t⟩ K ⟨q1, q2⟩ hK
  dsimp only at q1 q2 hK
  have hb : ∀ x : Int, (bytesI [x]).length = 1 := fun _ => rfl
  simp only [F_laws_markText_l0, bif_dec]
  split
  ·rename_i hv
   have e1 : Int.tdiv v 10 = v / 10 := Int.tdiv_eq_ediv_of_nonneg q1
   rw [need_true (by rw [hb]; omega), e1, w64_id (by omega)]
   refine hK _ ⟨by dsimp only; omega, ?_⟩ (by dsimp only; omega)
   simp only [List.length_append, hb]
   omega
  ·rw [need_true (by simp only [List.length_cons, List.length_nil]; omega)]
   exact ⟨_, rfl, trivial⟩
 obtain ⟨r, h, _⟩ := key
 rw [mt, h]; rfl
theorem sz_Int64S (L : List Int) (hp : (OkL OkI) L) (l : Int) (h0 : 0 ≤ l) (hl : l ≤ 1048576) : ∃ r, F_laws_szInt64S L l = some r ∧ (r ≤ l ∧ (0 ≤ r → (SmL (fun _ => True)) L)) := by
 obtain ⟨hL, hs⟩ := hp
 unfold F_laws_szInt64S
 rw [w64_id (by omega)]
 simp only [bif_dec]
 split
 ·exact ⟨_, rfl, by omega, by omega⟩
 ·exact ⟨_, rfl, by omega, fun _ => ⟨by omega, fun a _ => trivial⟩⟩
theorem to_Int64S (L : List Int) (h : (SmL (fun _ => True)) L) : F_laws_toInt64S L = some L := by
 have hL := h.1
 unfold F_laws_toInt64S
 rw [need_true (by omega)]
 have := loop_ex (body := F_laws_toInt64S_l0 L) (L := L) (s0 := (0, List.replicate ((L.length : Int)).toNat (0 : Int))) (Q := fun r => r = L) (fun i s => s.1 = (i : Int) ∧ s.2.length = L.length ∧ s.2.take i = L.take i) (by omega) ⟨rfl, by simp, by simp⟩ ?_ ?_
 ·obtain ⟨r, h1, rfl⟩ := this; exact h1
 ·rintro i ⟨j, M⟩ k a ha hi ⟨rfl, h1, h2⟩ hk
  dsimp only at h1 h2
  have hl := get_lt ha
  obtain ⟨b, hb⟩ := get_some (L := M) (n := i) (by omega)
  simp only [F_laws_toInt64S_l0, int_lt hl, ix_get ha, ix_get hb, Option.bind_some, bif_t, w64_succ hi, Int.toNat_natCast]
  refine hk _ ⟨rfl, by simpa using h1, ?_⟩
  dsimp only
  rw [take_succ ha, take_succ (set_get hb), List.take_set_of_le (Nat.le_refl _), h2]
 ·rintro ⟨j, M⟩ k ⟨rfl, h1, h2⟩
  dsimp only at h1 h2
  simp only [F_laws_toInt64S_l0, int_lt_self, bif_f]
  rw [take_all (Nat.le_of_eq h1), take_all (Nat.le_refl _)] at h2
  exact ⟨_, rfl, h2⟩
theorem eq_Int64S (L : List Int) (h : (SmL (fun _ => True)) L) : F_laws_eqInt64S L L = some true := by
 have hL := h.1
 unfold F_laws_eqInt64S
 simp only [ne_eq, not_true_eq_false, decide_false, bif_f]
 rw [loop_all (L := L) (fun _ => true) (by omega)]
 ·simp
 ·intro i k a ha hi
  simp only [F_laws_eqInt64S_l0, int_lt (get_lt ha), ix_get ha, w64_succ hi, Option.bind_some, bif_t, ne_eq, not_true_eq_false, decide_false, bif_f]
 ·intro k; simp [F_laws_eqInt64S_l0]
noncomputable def HInt64S (x : Int) (k n : Int) : Prop := 0 ≤ n
theorem mk_Int64S (L : List Int) (h : (SmL (fun _ => True)) L) (k : Int) (h1 : 1 ≤ k) (h2 : k + 1048576 ≤ 4611686018427387904) : ∃ L' n, F_laws_markInt64S L k = some (L', k + n) ∧ 0 ≤ n ∧ n ≤ 1048576 ∧ L'.length = L.length ∧ (SmL (fun _ => True)) L' ∧ True := by
 have key : ∃ L' n, loop F_laws_markInt64S_l0 (k, 0, L) = some (L', k + n) ∧ 0 ≤ n ∧ n ≤ 1048576 * 1 ∧ L'.length = L.length ∧ (∀ a ∈ L', (fun _ => True) a) ∧ Marked HInt64S L' k n := by
  refine mark_loop HInt64S (fun _ => True) 1 (by omega) L k h.1 h1 (by omega) h.2 ?_ ?_
  ·intro i k M a K ha hi hp hk hb
   refine ⟨k, 1, by show (0 : Int) ≤ 1; omega, by omega, by omega, trivial, ?_⟩
   have w1 : w64 (k + 1) = k + 1 := w64_id (by omega)
   simp only [F_laws_markInt64S_l0, int_lt (get_lt ha), ix_get ha, Option.bind_some, bif_t, w64_succ hi, Int.toNat_natCast, w1]
  ·intro k M K; simp [F_laws_markInt64S_l0]
 obtain ⟨L', n, q1, q2, q3, q4, q5, q6⟩ := key
 refine ⟨L', n, q1, q2, by omega, q4, ⟨by rw [q4]; exact h.1, q5⟩, ?_⟩
 trivial
theorem sz_Int64SS (L : List (List Int)) (hp : (OkL (OkL OkI)) L) (l : Int) (h0 : 0 ≤ l) (hl : l ≤ 1048576) : ∃ r, F_laws_szInt64SS L l = some r ∧ (r ≤ l ∧ (0 ≤ r → (SmL (SmL (fun _ => True))) L)) := by
 obtain ⟨hL, hs⟩ := hp
 unfold F_laws_szInt64SS
 rw [w64_id (by omega)]
 simp only [bif_dec]
 split
 ·exact ⟨_, rfl, by omega, by omega⟩
 ·refine loop_ex (L := L) (fun i s => s.2 = (i : Int) ∧ 0 ≤ s.1 ∧ s.1 ≤ l - (L.length : Int) ∧ ∀ x ∈ L.take i, (SmL (fun _ => True)) x) hL ⟨rfl, by omega, by simp, by simp⟩ ?_ ?_
  ·rintro i ⟨m, j⟩ k a ha hi ⟨rfl, h1, h2, h3⟩ hk
   dsimp only at h1 h2 h3
   have oa := hs a (get_mem ha)
   obtain ⟨r, q1, q2, q3⟩ := sz_Int64S a oa m h1 (by omega)
   simp only [F_laws_szInt64SS_l0, int_lt (get_lt ha), ix_get ha, Option.bind_some, bif_t, bif_dec, q1]
   split
   ·exact ⟨_, rfl, by omega, by omega⟩
   ·rw [w64_succ hi]
    refine hk _ ⟨rfl, by dsimp only; omega, by dsimp only; omega, ?_⟩
    intro x hx
    rw [take_succ ha] at hx
    rcases List.mem_append.1 hx with hx | hx
    ·exact h3 x hx
    ·rw [List.mem_singleton.1 hx]; exact (q3 (by omega))
  ·rintro ⟨m, j⟩ k ⟨rfl, h1, h2, h3⟩
   dsimp only at h1 h2 h3
   simp only [F_laws_szInt64SS_l0, int_lt_self, bif_f]
   rw [take_all (Nat.le_refl _)] at h3
   exact ⟨_, rfl, by omega, fun _ => ⟨by omega, h3⟩⟩
theorem to_Int64SS (L : List (List Int)) (h : (SmL (SmL (fun _ => True))) L) : F_laws_toInt64SS L = some L := by
 have hL := h.1
 unfold F_laws_toInt64SS
 rw [need_true (by omega)]
 have := loop_ex (body := F_laws_toInt64SS_l0 L) (L := L) (s0 := (0, List.replicate ((L.length : Int)).toNat ([] : List Int))) (Q := fun r => r = L) (fun i s => s.1 = (i : Int) ∧ s.2.length = L.length ∧ s.2.take i = L.take i) (by omega) ⟨rfl, by simp, by simp⟩ ?_ ?_
 ·obtain ⟨r, h1, rfl⟩ := this; exact h1
 ·rintro i ⟨j, M⟩ k a ha hi ⟨rfl, h1, h2⟩ hk
  dsimp only at h1 h2
  have hl := get_lt ha
  obtain ⟨b, hb⟩ := get_some (L := M) (n := i) (by omega)
  simp only [F_laws_toInt64SS_l0, int_lt hl, ix_get ha, ix_get hb, Option.bind_some, bif_t, w64_succ hi, Int.toNat_natCast, to_Int64S a (h.2 a (get_mem ha))]
  refine hk _ ⟨rfl, by simpa using h1, ?_⟩
  dsimp only
  rw [take_succ ha, take_succ (set_get hb), List.take_set_of_le (Nat.le_refl _), h2]
 ·rintro ⟨j, M⟩ k ⟨rfl, h1, h2⟩
  dsimp only at h1 h2
  simp only [F_laws_toInt64SS_l0, int_lt_self, bif_f]
  rw [take_all (Nat.le_of_eq h1), take_all (Nat.le_refl _)] at h2
  exact ⟨_, rfl, h2⟩
theorem eq_Int64SS (L : List (List Int)) (h : (SmL (SmL (fun _ => True))) L) : F_laws_eqInt64SS L L = some true := by
 have hL := h.1
 unfold F_laws_eqInt64SS
 simp only [ne_eq, not_true_eq_false, decide_false, bif_f]
 rw [loop_all (L := L) (fun _ => true) (by omega)]
 ·simp
 ·intro i k a ha hi
  simp only [F_laws_eqInt64SS_l0, int_lt (get_lt ha), ix_get ha, w64_succ hi, Option.bind_some, bif_t, eq_Int64S a (h.2 a (get_mem ha)), Bool.not_true, bif_f]
 ·intro k; simp [F_laws_eqInt64SS_l0]
noncomputable def HInt64SS (x : List Int) (k n : Int) : Prop := 0 ≤ n
theorem mk_Int64SS (L : List (List Int)) (h : (SmL (SmL (fun _ => True))) L) (k : Int) (h1 : 1 ≤ k) (h2 : k + 1099511627776 ≤ 4611686018427387904) : ∃ L' n, F_laws_markInt64SS L k = some (L', k + n) ∧ 0 ≤ n ∧ n ≤ 1099511627776 ∧ L'.length = L.length ∧ (SmL (SmL (fun _ => True))) L' ∧ True := by
 have key : ∃ L' n, loop F_laws_markInt64SS_l0 (k, 0, L) = some (L', k + n) ∧ 0 ≤ n ∧ n ≤ 1048576 * 1048576 ∧ L'.length = L.length ∧ (∀ a ∈ L', (SmL (fun _ => True)) a) ∧ Marked HInt64SS L' k n := by
  refine mark_loop HInt64SS (SmL (fun _ => True)) 1048576 (by omega) L k h.1 h1 (by omega) h.2 ?_ ?_
  ·intro i k M a K ha hi hp hk hb
   obtain ⟨a', n, q1, q2, q3, q4, q5, q6⟩ := mk_Int64S a hp k hk (by omega)
   refine ⟨a', n, q2, q2, by omega, q5, ?_⟩
   simp only [F_laws_markInt64SS_l0, int_lt (get_lt ha), ix_get ha, Option.bind_some, bif_t, w64_succ hi, Int.toNat_natCast, q1, need_true q4]
  ·intro k M K; simp [F_laws_markInt64SS_l0]
 obtain ⟨L', n, q1, q2, q3, q4, q5, q6⟩ := key
 refine ⟨L', n, q1, q2, by omega, q4, ⟨by rw [q4]; exact h.1, q5⟩, ?_⟩
 trivial
noncomputable def OkRaga (p : TRaga) : Prop := OkS p.1 ∧ (OkL OkI) p.2.1 ∧ (OkL OkI) p.2.2.1 ∧ OkI p.2.2.2.1 ∧ OkI p.2.2.2.2.1 ∧ (OkL (OkL OkI)) p.2.2.2.2.2
noncomputable def SmRaga (p : TRaga) : Prop := SmS p.1 ∧ (SmL (fun _ => True)) p.2.1 ∧ (SmL (fun _ => True)) p.2.2.1 ∧ (fun _ => True) p.2.2.2.1 ∧ (fun _ => True) p.2.2.2.2.1 ∧ (SmL (SmL (fun _ => True))) p.2.2.2.2.2
noncomputable def CtRaga (p : TRaga) : Prop := (fun _ => True) p.1 ∧ (SmL (fun _ => True)) p.2.1 ∧ (SmL (fun _ => True)) p.2.2.1 ∧ (fun _ => True) p.2.2.2.1 ∧ (fun _ => True) p.2.2.2.2.1 ∧ (SmL (SmL (fun _ => True))) p.2.2.2.2.2
theorem ctsm_Raga (p : TRaga) (h : SmRaga p) : CtRaga p := by
 obtain ⟨h0, h1, h2, h3, h4, h5⟩ := h
 exact ⟨trivial, ⟨h1.1, fun a ha => trivial⟩, ⟨h2.1, fun a ha => trivial⟩, trivial, trivial, ⟨h5.1, fun a ha => ⟨(h5.2 a ha).1, fun a ha => trivial⟩⟩⟩
theorem dec_Raga (x : V) (h : Elem true [.str, .sl 1 false [.int .i64], .sl 1 false [.int .i64], .int .i64, .int .i64, .sl 1 false [.sl 1 false [.int .i64]]] x) : ∃ p : TRaga, x = eRaga p ∧ OkRaga p := by
 obtain ⟨h1, h2⟩ := h
 have h1 : x = .agg x.cells := h1
 obtain ⟨v0, l0, hc, k0, v1, l1, rfl, k1, v2, l2, rfl, k2, v3, l3, rfl, k3, v4, l4, rfl, k4, v5, l5, rfl, k5, rfl⟩ := h2
 obtain ⟨a0, rfl, b0⟩ := dec_str k0
 obtain ⟨a1, rfl, b1⟩ := (dec_sl (dec_one fun _ h => dec_i64 h)) k1
 obtain ⟨a2, rfl, b2⟩ := (dec_sl (dec_one fun _ h => dec_i64 h)) k2
 obtain ⟨a3, rfl, b3⟩ := dec_i64 k3
 obtain ⟨a4, rfl, b4⟩ := dec_i64 k4
 obtain ⟨a5, rfl, b5⟩ := (dec_sl (dec_one fun _ h => (dec_sl (dec_one fun _ h => dec_i64 h)) h)) k5
 exact ⟨(a0, a1, a2, a3, a4, a5), by rw [h1, hc]; rfl, ⟨b0, b1, b2, b3, b4, b5⟩⟩
theorem sz_Raga (p : TRaga) (hp : OkRaga p) (l : Int) (h0 : 0 ≤ l) (hl : l ≤ 1048576) : ∃ r, F_laws_szRaga p l = some r ∧ (r ≤ l ∧ (0 ≤ r → SmRaga p)) := by
 obtain ⟨o0, o1, o2, o3, o4, o5⟩ := hp
 unfold F_laws_szRaga
 have q0 : p.1.length ≤ 9223372036854775807 := o0
 rw [w64_id (by omega)]
 rw [bif_dec]
 split
 ·exact ⟨_, rfl, by omega, by omega⟩
 obtain ⟨r1, e1, m1, s1⟩ := sz_Int64S p.2.1 o1 (l - (p.1.length : Int)) (by omega) (by omega)
 rw [e1]
 rw [Option.bind_some, bif_dec]
 split
 ·exact ⟨_, rfl, by omega, by omega⟩
 obtain ⟨r2, e2, m2, s2⟩ := sz_Int64S p.2.2.1 o2 r1 (by omega) (by omega)
 rw [e2]
 rw [Option.bind_some, bif_dec]
 split
 ·exact ⟨_, rfl, by omega, by omega⟩
 obtain ⟨r5, e5, m5, s5⟩ := sz_Int64SS p.2.2.2.2.2 o5 r2 (by omega) (by omega)
 rw [e5]
 rw [Option.bind_some, bif_dec]
 split
 ·exact ⟨_, rfl, by omega, by omega⟩
 exact ⟨_, rfl, by omega, fun _ => ⟨(by show (p.1.length : Int) ≤ 1048576; omega), (s1 (by omega)), (s2 (by omega)), trivial, trivial, (s5 (by omega))⟩⟩
theorem to_Raga (p : TRaga) (h : CtRaga p) : F_laws_toRaga p = some p := by
 obtain ⟨s0, s1, s2, s3, s4, s5⟩ := h
 unfold F_laws_toRaga
 simp only [to_Int64S _ s1, to_Int64S _ s2, to_Int64SS _ s5, Option.bind_some]
theorem eq_Raga (p : TRaga) (h : CtRaga p) : F_laws_eqRaga p p = some true := by
 obtain ⟨s0, s1, s2, s3, s4, s5⟩ := h
 simp [F_laws_eqRaga, eq_Int64S _ s1, eq_Int64S _ s2, eq_Int64SS _ s5]
theorem mk_Raga (p : TRaga) (h : CtRaga p) (k : Int) (h1 : 1 ≤ k) (h2 : k + 1099513724931 ≤ 4611686018427387904) : ∃ (p' : TRaga) (n : Int), F_laws_markRaga p k = some (p', k + n) ∧ 0 ≤ n ∧ n ≤ 1099513724931 ∧ ((p').2.1.length = p.2.1.length ∧ (p').2.2.1.length = p.2.2.1.length ∧ (p').2.2.2.2.2.length = p.2.2.2.2.2.length) ∧ CtRaga p' ∧ True := by
 obtain ⟨b1, n1, q1, r1, s1, l1, c1, e1⟩ := mk_Int64S p.2.1 h.2.1 (k) (by omega) (by omega)
 have d1 : decide ((k + n1 : Int) < 0) = false := decide_eq_false (by omega)
 obtain ⟨b2, n2, q2, r2, s2, l2, c2, e2⟩ := mk_Int64S p.2.2.1 h.2.2.1 (k + n1) (by omega) (by omega)
 have d2 : decide ((k + n1 + n2 : Int) < 0) = false := decide_eq_false (by omega)
 obtain ⟨b5, n5, q5, r5, s5, l5, c5, e5⟩ := mk_Int64SS p.2.2.2.2.2 h.2.2.2.2.2 (k + n1 + n2) (by omega) (by omega)
 have d5 : decide ((k + n1 + n2 + n5 : Int) < 0) = false := decide_eq_false (by omega)
 have eK : k + n1 + n2 + n5 = k + (n1 + n2 + n5) := by omega
 have wE : w64 (k + (n1 + n2 + n5)) = k + (n1 + n2 + n5) := w64_id (by omega)
 refine ⟨(p.1, b1, b2, p.2.2.2.1, p.2.2.2.2.1, b5), n1 + n2 + n5, ?_, by omega, by omega, ⟨l1, l2, l5⟩, ⟨trivial, c1, c2, trivial, trivial, c5⟩, ?_⟩
 ·simp only [F_laws_markRaga, q1, need_true l1, q2, need_true l2, q5, need_true l5, Option.bind_some, eK, wE]
 ·trivial
noncomputable def OkNote (p : TNote) : Prop := OkI p.1 ∧ OkI p.2
noncomputable def SmNote (p : TNote) : Prop := (fun _ => True) p.1 ∧ (fun _ => True) p.2
noncomputable def CtNote (p : TNote) : Prop := (fun _ => True) p.1 ∧ (fun _ => True) p.2
theorem ctsm_Note (p : TNote) (h : SmNote p) : CtNote p := by
 obtain ⟨h0, h1⟩ := h
 exact ⟨trivial, trivial⟩
theorem dec_Note (x : V) (h : Elem true [.int .i64, .int .i64] x) : ∃ p : TNote, x = eNote p ∧ OkNote p := by
 obtain ⟨h1, h2⟩ := h
 have h1 : x = .agg x.cells := h1
 obtain ⟨v0, l0, hc, k0, v1, l1, rfl, k1, rfl⟩ := h2
 obtain ⟨a0, rfl, b0⟩ := dec_i64 k0
 obtain ⟨a1, rfl, b1⟩ := dec_i64 k1
 exact ⟨(a0, a1), by rw [h1, hc]; rfl, ⟨b0, b1⟩⟩
theorem to_Note (p : TNote) (h : CtNote p) : F_laws_toNote p = some p := by
 obtain ⟨s0, s1⟩ := h
 unfold F_laws_toNote
 rfl
theorem eq_Note (p : TNote) (h : CtNote p) : F_laws_eqNote p p = some true := by
 obtain ⟨s0, s1⟩ := h
 simp [F_laws_eqNote]
theorem sz_NoteS (L : List TNote) (hp : (OkL OkNote) L) (l : Int) (h0 : 0 ≤ l) (hl : l ≤ 1048576) : ∃ r, F_laws_szNoteS L l = some r ∧ (r ≤ l ∧ (0 ≤ r → (SmL SmNote) L)) := by
 obtain ⟨hL, hs⟩ := hp
 unfold F_laws_szNoteS
 rw [w64_id (by omega)]
 simp only [bif_dec]
 split
 ·exact ⟨_, rfl, by omega, by omega⟩
 ·exact ⟨_, rfl, by omega, fun _ => ⟨by omega, fun a _ => ⟨trivial, trivial⟩⟩⟩
theorem to_NoteS (L : List TNote) (h : (SmL CtNote) L) : F_laws_toNoteS L = some L := by
 have hL := h.1
 unfold F_laws_toNoteS
 rw [need_true (by omega)]
 have := loop_ex (body := F_laws_toNoteS_l0 L) (L := L) (s0 := (0, List.replicate ((L.length : Int)).toNat ((0, 0) : TNote))) (Q := fun r => r = L) (fun i s => s.1 = (i : Int) ∧ s.2.length = L.length ∧ s.2.take i = L.take i) (by omega) ⟨rfl, by simp, by simp⟩ ?_ ?_
 ·obtain ⟨r, h1, rfl⟩ := this; exact h1
 ·rintro i ⟨j, M⟩ k a ha hi ⟨rfl, h1, h2⟩ hk
  dsimp only at h1 h2
  have hl := get_lt ha
  obtain ⟨b, hb⟩ := get_some (L := M) (n := i) (by omega)
  simp only [F_laws_toNoteS_l0, int_lt hl, ix_get ha, ix_get hb, Option.bind_some, bif_t, w64_succ hi, Int.toNat_natCast, to_Note a (h.2 a (get_mem ha))]
  refine hk _ ⟨rfl, by simpa using h1, ?_⟩
  dsimp only
  rw [take_succ ha, take_succ (set_get hb), List.take_set_of_le (Nat.le_refl _), h2]
 ·rintro ⟨j, M⟩ k ⟨rfl, h1, h2⟩
  dsimp only at h1 h2
  simp only [F_laws_toNoteS_l0, int_lt_self, bif_f]
  rw [take_all (Nat.le_of_eq h1), take_all (Nat.le_refl _)] at h2
  exact ⟨_, rfl, h2⟩
theorem eq_NoteS (L : List TNote) (h : (SmL CtNote) L) : F_laws_eqNoteS L L = some true := by
 have hL := h.1
 unfold F_laws_eqNoteS
 simp only [ne_eq, not_true_eq_false, decide_false, bif_f]
 rw [loop_all (L := L) (fun _ => true) (by omega)]
 ·simp
 ·intro i k a ha hi
  simp only [F_laws_eqNoteS_l0, int_lt (get_lt ha), ix_get ha, w64_succ hi, Option.bind_some, bif_t, eq_Note a (h.2 a (get_mem ha)), Bool.not_true, bif_f]
 ·intro k; simp [F_laws_eqNoteS_l0]
noncomputable def HNoteS (x : TNote) (k n : Int) : Prop := 0 ≤ n
theorem mk_NoteS (L : List TNote) (h : (SmL CtNote) L) (k : Int) (h1 : 1 ≤ k) (h2 : k + 2097152 ≤ 4611686018427387904) : ∃ L' n, F_laws_markNoteS L k = some (L', k + n) ∧ 0 ≤ n ∧ n ≤ 2097152 ∧ L'.length = L.length ∧ (SmL CtNote) L' ∧ True := by
 have key : ∃ L' n, loop F_laws_markNoteS_l0 (k, 0, L) = some (L', k + n) ∧ 0 ≤ n ∧ n ≤ 1048576 * 2 ∧ L'.length = L.length ∧ (∀ a ∈ L', CtNote a) ∧ Marked HNoteS L' k n := by
  refine mark_loop HNoteS CtNote 2 (by omega) L k h.1 h1 (by omega) h.2 ?_ ?_
  ·intro i k M a K ha hi hp hk hb
   have w0 : w64 (k + 1) = k + 1 := w64_id (by omega)
   have w1 : w64 (k + 1 + 1) = k + 1 + 1 := w64_id (by omega)
   refine ⟨(k, k + 1), 2, (by show (0 : Int) ≤ 2; omega), by omega, by omega, ⟨trivial, trivial⟩, ?_⟩
   have eK : k + 1 + 1 = k + (2) := by omega
   have wE : w64 (k + (2)) = k + (2) := w64_id (by omega)
   simp only [F_laws_markNoteS_l0, int_lt (get_lt ha), ix_get ha, Option.bind_some, bif_t, w64_succ hi, Int.toNat_natCast, int_lt_set, ix_set (get_lt ha), List.set_set, List.length_set, w0, w1, eK, wE]
  ·intro k M K; simp [F_laws_markNoteS_l0]
 obtain ⟨L', n, q1, q2, q3, q4, q5, q6⟩ := key
 refine ⟨L', n, q1, q2, by omega, q4, ⟨by rw [q4]; exact h.1, q5⟩, ?_⟩
 trivial
noncomputable def OkTala (p : TTala) : Prop := OkS p.1 ∧ (OkL OkI) p.2.1 ∧ (OkL OkI) p.2.2
noncomputable def SmTala (p : TTala) : Prop := SmS p.1 ∧ (SmL (fun _ => True)) p.2.1 ∧ (SmL (fun _ => True)) p.2.2
noncomputable def CtTala (p : TTala) : Prop := (fun _ => True) p.1 ∧ (SmL (fun _ => True)) p.2.1 ∧ (SmL (fun _ => True)) p.2.2
theorem ctsm_Tala (p : TTala) (h : SmTala p) : CtTala p := by
 obtain ⟨h0, h1, h2⟩ := h
 exact ⟨trivial, ⟨h1.1, fun a ha => trivial⟩, ⟨h2.1, fun a ha => trivial⟩⟩
theorem dec_Tala (x : V) (h : Elem true [.str, .sl 1 false [.int .i64], .sl 1 false [.int .i64]] x) : ∃ p : TTala, x = eTala p ∧ OkTala p := by
 obtain ⟨h1, h2⟩ := h
 have h1 : x = .agg x.cells := h1
 obtain ⟨v0, l0, hc, k0, v1, l1, rfl, k1, v2, l2, rfl, k2, rfl⟩ := h2
 obtain ⟨a0, rfl, b0⟩ := dec_str k0
 obtain ⟨a1, rfl, b1⟩ := (dec_sl (dec_one fun _ h => dec_i64 h)) k1
 obtain ⟨a2, rfl, b2⟩ := (dec_sl (dec_one fun _ h => dec_i64 h)) k2
 exact ⟨(a0, a1, a2), by rw [h1, hc]; rfl, ⟨b0, b1, b2⟩⟩
theorem sz_Tala (p : TTala) (hp : OkTala p) (l : Int) (h0 : 0 ≤ l) (hl : l ≤ 1048576) : ∃ r, F_laws_szTala p l = some r ∧ (r ≤ l ∧ (0 ≤ r → SmTala p)) := by
 obtain ⟨o0, o1, o2⟩ := hp
 unfold F_laws_szTala
 have q0 : p.1.length ≤ 9223372036854775807 := o0
 rw [w64_id (by omega)]
 rw [bif_dec]
 split
 ·exact ⟨_, rfl, by omega, by omega⟩
 obtain ⟨r1, e1, m1, s1⟩ := sz_Int64S p.2.1 o1 (l - (p.1.length : Int)) (by omega) (by omega)
 rw [e1]
 rw [Option.bind_some, bif_dec]
 split
 ·exact ⟨_, rfl, by omega, by omega⟩
 obtain ⟨r2, e2, m2, s2⟩ := sz_Int64S p.2.2 o2 r1 (by omega) (by omega)
 rw [e2]
 rw [Option.bind_some, bif_dec]
 split
 ·exact ⟨_, rfl, by omega, by omega⟩
 exact ⟨_, rfl, by omega, fun _ => ⟨(by show (p.1.length : Int) ≤ 1048576; omega), (s1 (by omega)), (s2 (by omega))⟩⟩
theorem to_Tala (p : TTala) (h : CtTala p) : F_laws_toTala p = some p := by
 obtain ⟨s0, s1, s2⟩ := h
 unfold F_laws_toTala
 simp only [to_Int64S _ s1, to_Int64S _ s2, Option.bind_some]
theorem eq_Tala (p : TTala) (h : CtTala p) : F_laws_eqTala p p = some true := by
 obtain ⟨s0, s1, s2⟩ := h
 simp [F_laws_eqTala, eq_Int64S _ s1, eq_Int64S _ s2]
theorem mk_Tala (p : TTala) (h : CtTala p) (k : Int) (h1 : 1 ≤ k) (h2 : k + 2097153 ≤ 4611686018427387904) : ∃ (p' : TTala) (n : Int), F_laws_markTala p k = some (p', k + n) ∧ 0 ≤ n ∧ n ≤ 2097153 ∧ ((p').2.1.length = p.2.1.length ∧ (p').2.2.length = p.2.2.length) ∧ CtTala p' ∧ True := by
 obtain ⟨b1, n1, q1, r1, s1, l1, c1, e1⟩ := mk_Int64S p.2.1 h.2.1 (k) (by omega) (by omega)
 have d1 : decide ((k + n1 : Int) < 0) = false := decide_eq_false (by omega)
 obtain ⟨b2, n2, q2, r2, s2, l2, c2, e2⟩ := mk_Int64S p.2.2 h.2.2 (k + n1) (by omega) (by omega)
 have d2 : decide ((k + n1 + n2 : Int) < 0) = false := decide_eq_false (by omega)
 have eK : k + n1 + n2 = k + (n1 + n2) := by omega
 have wE : w64 (k + (n1 + n2)) = k + (n1 + n2) := w64_id (by omega)
 refine ⟨(p.1, b1, b2), n1 + n2, ?_, by omega, by omega, ⟨l1, l2⟩, ⟨trivial, c1, c2⟩, ?_⟩
 ·simp only [F_laws_markTala, q1, need_true l1, q2, need_true l2, Option.bind_some, eK, wE]
 ·trivial
noncomputable def OkTurn (p : TTurn) : Prop := OkS p.1 ∧ OkI p.2.1 ∧ OkI p.2.2
noncomputable def SmTurn (p : TTurn) : Prop := SmS p.1 ∧ (fun _ => True) p.2.1 ∧ (fun _ => True) p.2.2
noncomputable def CtTurn (p : TTurn) : Prop := (fun _ => True) p.1 ∧ (fun _ => True) p.2.1 ∧ (fun _ => True) p.2.2
theorem ctsm_Turn (p : TTurn) (h : SmTurn p) : CtTurn p := by
 obtain ⟨h0, h1, h2⟩ := h
 exact ⟨trivial, trivial, trivial⟩
theorem dec_Turn (x : V) (h : Elem true [.str, .int .i64, .int .i64] x) : ∃ p : TTurn, x = eTurn p ∧ OkTurn p := by
 obtain ⟨h1, h2⟩ := h
 have h1 : x = .agg x.cells := h1
 obtain ⟨v0, l0, hc, k0, v1, l1, rfl, k1, v2, l2, rfl, k2, rfl⟩ := h2
 obtain ⟨a0, rfl, b0⟩ := dec_str k0
 obtain ⟨a1, rfl, b1⟩ := dec_i64 k1
 obtain ⟨a2, rfl, b2⟩ := dec_i64 k2
 exact ⟨(a0, a1, a2), by rw [h1, hc]; rfl, ⟨b0, b1, b2⟩⟩
theorem sz_Turn (p : TTurn) (hp : OkTurn p) (l : Int) (h0 : 0 ≤ l) (hl : l ≤ 1048576) : ∃ r, F_laws_szTurn p l = some r ∧ (r ≤ l ∧ (0 ≤ r → SmTurn p)) := by
 obtain ⟨o0, o1, o2⟩ := hp
 unfold F_laws_szTurn
 have q0 : p.1.length ≤ 9223372036854775807 := o0
 rw [w64_id (by omega)]
 rw [bif_dec]
 split
 ·exact ⟨_, rfl, by omega, by omega⟩
 exact ⟨_, rfl, by omega, fun _ => ⟨(by show (p.1.length : Int) ≤ 1048576; omega), trivial, trivial⟩⟩
theorem to_Turn (p : TTurn) (h : CtTurn p) : F_laws_toTurn p = some p := by
 obtain ⟨s0, s1, s2⟩ := h
 unfold F_laws_toTurn
 rfl
theorem eq_Turn (p : TTurn) (h : CtTurn p) : F_laws_eqTurn p p = some true := by
 obtain ⟨s0, s1, s2⟩ := h
 simp [F_laws_eqTurn]
theorem sz_TurnS (L : List TTurn) (hp : (OkL OkTurn) L) (l : Int) (h0 : 0 ≤ l) (hl : l ≤ 1048576) : ∃ r, F_laws_szTurnS L l = some r ∧ (r ≤ l ∧ (0 ≤ r → (SmL SmTurn) L)) := by
 obtain ⟨hL, hs⟩ := hp
 unfold F_laws_szTurnS
 rw [w64_id (by omega)]
 simp only [bif_dec]
 split
 ·exact ⟨_, rfl, by omega, by omega⟩
 ·refine loop_ex (L := L) (fun i s => s.2 = (i : Int) ∧ 0 ≤ s.1 ∧ s.1 ≤ l - (L.length : Int) ∧ ∀ x ∈ L.take i, SmTurn x) hL ⟨rfl, by omega, by simp, by simp⟩ ?_ ?_
  ·rintro i ⟨m, j⟩ k a ha hi ⟨rfl, h1, h2, h3⟩ hk
   dsimp only at h1 h2 h3
   have oa := hs a (get_mem ha)
   obtain ⟨r, q1, q2, q3⟩ := sz_Turn a oa m h1 (by omega)
   simp only [F_laws_szTurnS_l0, int_lt (get_lt ha), ix_get ha, Option.bind_some, bif_t, bif_dec, q1]
   split
   ·exact ⟨_, rfl, by omega, by omega⟩
   ·rw [w64_succ hi]
    refine hk _ ⟨rfl, by dsimp only; omega, by dsimp only; omega, ?_⟩
    intro x hx
    rw [take_succ ha] at hx
    rcases List.mem_append.1 hx with hx | hx
    ·exact h3 x hx
    ·rw [List.mem_singleton.1 hx]; exact (q3 (by omega))
  ·rintro ⟨m, j⟩ k ⟨rfl, h1, h2, h3⟩
   dsimp only at h1 h2 h3
   simp only [F_laws_szTurnS_l0, int_lt_self, bif_f]
   rw [take_all (Nat.le_refl _)] at h3
   exact ⟨_, rfl, by omega, fun _ => ⟨by omega, h3⟩⟩
theorem to_TurnS (L : List TTurn) (h : (SmL CtTurn) L) : F_laws_toTurnS L = some L := by
 have hL := h.1
 unfold F_laws_toTurnS
 rw [need_true (by omega)]
 have := loop_ex (body := F_laws_toTurnS_l0 L) (L := L) (s0 := (0, List.replicate ((L.length : Int)).toNat (([], 0, 0) : TTurn))) (Q := fun r => r = L) (fun i s => s.1 = (i : Int) ∧ s.2.length = L.length ∧ s.2.take i = L.take i) (by omega) ⟨rfl, by simp, by simp⟩ ?_ ?_
 ·obtain ⟨r, h1, rfl⟩ := this; exact h1
 ·rintro i ⟨j, M⟩ k a ha hi ⟨rfl, h1, h2⟩ hk
  dsimp only at h1 h2
  have hl := get_lt ha
  obtain ⟨b, hb⟩ := get_some (L := M) (n := i) (by omega)
  simp only [F_laws_toTurnS_l0, int_lt hl, ix_get ha, ix_get hb, Option.bind_some, bif_t, w64_succ hi, Int.toNat_natCast, to_Turn a (h.2 a (get_mem ha))]
  refine hk _ ⟨rfl, by simpa using h1, ?_⟩
  dsimp only
  rw [take_succ ha, take_succ (set_get hb), List.take_set_of_le (Nat.le_refl _), h2]
 ·rintro ⟨j, M⟩ k ⟨rfl, h1, h2⟩
  dsimp only at h1 h2
  simp only [F_laws_toTurnS_l0, int_lt_self, bif_f]
  rw [take_all (Nat.le_of_eq h1), take_all (Nat.le_refl _)] at h2
  exact ⟨_, rfl, h2⟩
theorem eq_TurnS (L : List TTurn) (h : (SmL CtTurn) L) : F_laws_eqTurnS L L = some true := by
 have hL := h.1
 unfold F_laws_eqTurnS
 simp only [ne_eq, not_true_eq_false, decide_false, bif_f]
 rw [loop_all (L := L) (fun _ => true) (by omega)]
 ·simp
 ·intro i k a ha hi
  simp only [F_laws_eqTurnS_l0, int_lt (get_lt ha), ix_get ha, w64_succ hi, Option.bind_some, bif_t, eq_Turn a (h.2 a (get_mem ha)), Bool.not_true, bif_f]
 ·intro k; simp [F_laws_eqTurnS_l0]
noncomputable def HTurnS (x : TTurn) (k n : Int) : Prop := 0 ≤ n
theorem mk_TurnS (L : List TTurn) (h : (SmL CtTurn) L) (k : Int) (h1 : 1 ≤ k) (h2 : k + 3145728 ≤ 4611686018427387904) : ∃ L' n, F_laws_markTurnS L k = some (L', k + n) ∧ 0 ≤ n ∧ n ≤ 3145728 ∧ L'.length = L.length ∧ (SmL CtTurn) L' ∧ True := by
 have key : ∃ L' n, loop F_laws_markTurnS_l0 (k, 0, L) = some (L', k + n) ∧ 0 ≤ n ∧ n ≤ 1048576 * 3 ∧ L'.length = L.length ∧ (∀ a ∈ L', CtTurn a) ∧ Marked HTurnS L' k n := by
  refine mark_loop HTurnS CtTurn 3 (by omega) L k h.1 h1 (by omega) h.2 ?_ ?_
  ·intro i k M a K ha hi hp hk hb
   have t0 := markText_mt (k) (by omega) (by omega)
   have w0 : w64 (k + 1) = k + 1 := w64_id (by omega)
   have w1 : w64 (k + 1 + 1) = k + 1 + 1 := w64_id (by omega)
   have w2 : w64 (k + 1 + 1 + 1) = k + 1 + 1 + 1 := w64_id (by omega)
   refine ⟨(mt (k), k + 1, k + 1 + 1), 3, (by show (0 : Int) ≤ 3; omega), by omega, by omega, ⟨trivial, trivial, trivial⟩, ?_⟩
   have eK : k + 1 + 1 + 1 = k + (3) := by omega
   have wE : w64 (k + (3)) = k + (3) := w64_id (by omega)
   simp only [F_laws_markTurnS_l0, int_lt (get_lt ha), ix_get ha, Option.bind_some, bif_t, w64_succ hi, Int.toNat_natCast, int_lt_set, ix_set (get_lt ha), List.set_set, List.length_set, t0, w0, w1, w2, eK, wE]
  ·intro k M K; simp [F_laws_markTurnS_l0]
 obtain ⟨L', n, q1, q2, q3, q4, q5, q6⟩ := key
 refine ⟨L', n, q1, q2, by omega, q4, ⟨by rw [q4]; exact h.1, q5⟩, ?_⟩
 trivial
noncomputable def OkWork (p : TWork) : Prop := OkRaga (p.1, p.2.1, p.2.2.1, p.2.2.2.1, p.2.2.2.2.1, p.2.2.2.2.2.1) ∧ OkI p.2.2.2.2.2.2.1 ∧ OkI p.2.2.2.2.2.2.2.1 ∧ (OkL OkNote) p.2.2.2.2.2.2.2.2.1 ∧ OkTala (p.2.2.2.2.2.2.2.2.2.1, p.2.2.2.2.2.2.2.2.2.2.1, p.2.2.2.2.2.2.2.2.2.2.2.1) ∧ OkI p.2.2.2.2.2.2.2.2.2.2.2.2.1 ∧ OkS p.2.2.2.2.2.2.2.2.2.2.2.2.2.1 ∧ OkI p.2.2.2.2.2.2.2.2.2.2.2.2.2.2.1 ∧ OkI p.2.2.2.2.2.2.2.2.2.2.2.2.2.2.2.1 ∧ OkI p.2.2.2.2.2.2.2.2.2.2.2.2.2.2.2.2.1 ∧ (OkL OkTurn) p.2.2.2.2.2.2.2.2.2.2.2.2.2.2.2.2.2
noncomputable def SmWork (p : TWork) : Prop := SmRaga (p.1, p.2.1, p.2.2.1, p.2.2.2.1, p.2.2.2.2.1, p.2.2.2.2.2.1) ∧ (fun _ => True) p.2.2.2.2.2.2.1 ∧ (fun _ => True) p.2.2.2.2.2.2.2.1 ∧ (SmL SmNote) p.2.2.2.2.2.2.2.2.1 ∧ SmTala (p.2.2.2.2.2.2.2.2.2.1, p.2.2.2.2.2.2.2.2.2.2.1, p.2.2.2.2.2.2.2.2.2.2.2.1) ∧ (fun _ => True) p.2.2.2.2.2.2.2.2.2.2.2.2.1 ∧ SmS p.2.2.2.2.2.2.2.2.2.2.2.2.2.1 ∧ (fun _ => True) p.2.2.2.2.2.2.2.2.2.2.2.2.2.2.1 ∧ (fun _ => True) p.2.2.2.2.2.2.2.2.2.2.2.2.2.2.2.1 ∧ (fun _ => True) p.2.2.2.2.2.2.2.2.2.2.2.2.2.2.2.2.1 ∧ (SmL SmTurn) p.2.2.2.2.2.2.2.2.2.2.2.2.2.2.2.2.2
noncomputable def CtWork (p : TWork) : Prop := CtRaga (p.1, p.2.1, p.2.2.1, p.2.2.2.1, p.2.2.2.2.1, p.2.2.2.2.2.1) ∧ (fun _ => True) p.2.2.2.2.2.2.1 ∧ (fun _ => True) p.2.2.2.2.2.2.2.1 ∧ (SmL CtNote) p.2.2.2.2.2.2.2.2.1 ∧ CtTala (p.2.2.2.2.2.2.2.2.2.1, p.2.2.2.2.2.2.2.2.2.2.1, p.2.2.2.2.2.2.2.2.2.2.2.1) ∧ (fun _ => True) p.2.2.2.2.2.2.2.2.2.2.2.2.1 ∧ (fun _ => True) p.2.2.2.2.2.2.2.2.2.2.2.2.2.1 ∧ (fun _ => True) p.2.2.2.2.2.2.2.2.2.2.2.2.2.2.1 ∧ (fun _ => True) p.2.2.2.2.2.2.2.2.2.2.2.2.2.2.2.1 ∧ (fun _ => True) p.2.2.2.2.2.2.2.2.2.2.2.2.2.2.2.2.1 ∧ (SmL CtTurn) p.2.2.2.2.2.2.2.2.2.2.2.2.2.2.2.2.2
theorem ctsm_Work (p : TWork) (h : SmWork p) : CtWork p := by
 obtain ⟨h0, h1, h2, h3, h4, h5, h6, h7, h8, h9, h10⟩ := h
 exact ⟨(ctsm_Raga (p.1, p.2.1, p.2.2.1, p.2.2.2.1, p.2.2.2.2.1, p.2.2.2.2.2.1) h0), trivial, trivial, ⟨h3.1, fun a ha => (ctsm_Note a (h3.2 a ha))⟩, (ctsm_Tala (p.2.2.2.2.2.2.2.2.2.1, p.2.2.2.2.2.2.2.2.2.2.1, p.2.2.2.2.2.2.2.2.2.2.2.1) h4), trivial, trivial, trivial, trivial, trivial, ⟨h10.1, fun a ha => (ctsm_Turn a (h10.2 a ha))⟩⟩
theorem dec_Work (x : V) (h : Elem true [.str, .sl 1 false [.int .i64], .sl 1 false [.int .i64], .int .i64, .int .i64, .sl 1 false [.sl 1 false [.int .i64]], .int .i64, .int .i64, .sl 2 true [.int .i64, .int .i64], .str, .sl 1 false [.int .i64], .sl 1 false [.int .i64], .int .i64, .str, .int .i64, .int .i64, .int .i64, .sl 3 true [.str, .int .i64, .int .i64]] x) : ∃ p : TWork, x = eWork p ∧ OkWork p := by
 obtain ⟨h1, h2⟩ := h
 have h1 : x = .agg x.cells := h1
 obtain ⟨v0, l0, hc, k0, v1, l1, rfl, k1, v2, l2, rfl, k2, v3, l3, rfl, k3, v4, l4, rfl, k4, v5, l5, rfl, k5, v6, l6, rfl, k6, v7, l7, rfl, k7, v8, l8, rfl, k8, v9, l9, rfl, k9, v10, l10, rfl, k10, v11, l11, rfl, k11, v12, l12, rfl, k12, v13, l13, rfl, k13, v14, l14, rfl, k14, v15, l15, rfl, k15, v16, l16, rfl, k16, v17, l17, rfl, k17, rfl⟩ := h2
 obtain ⟨a0, rfl, b0⟩ := dec_str k0
 obtain ⟨a1, rfl, b1⟩ := (dec_sl (dec_one fun _ h => dec_i64 h)) k1
 obtain ⟨a2, rfl, b2⟩ := (dec_sl (dec_one fun _ h => dec_i64 h)) k2
 obtain ⟨a3, rfl, b3⟩ := dec_i64 k3
 obtain ⟨a4, rfl, b4⟩ := dec_i64 k4
 obtain ⟨a5, rfl, b5⟩ := (dec_sl (dec_one fun _ h => (dec_sl (dec_one fun _ h => dec_i64 h)) h)) k5
 obtain ⟨a6, rfl, b6⟩ := dec_i64 k6
 obtain ⟨a7, rfl, b7⟩ := dec_i64 k7
 obtain ⟨a8, rfl, b8⟩ := (dec_sl dec_Note) k8
 obtain ⟨a9, rfl, b9⟩ := dec_str k9
 obtain ⟨a10, rfl, b10⟩ := (dec_sl (dec_one fun _ h => dec_i64 h)) k10
 obtain ⟨a11, rfl, b11⟩ := (dec_sl (dec_one fun _ h => dec_i64 h)) k11
 obtain ⟨a12, rfl, b12⟩ := dec_i64 k12
 obtain ⟨a13, rfl, b13⟩ := dec_str k13
 obtain ⟨a14, rfl, b14⟩ := dec_i64 k14
 obtain ⟨a15, rfl, b15⟩ := dec_i64 k15
 obtain ⟨a16, rfl, b16⟩ := dec_i64 k16
 obtain ⟨a17, rfl, b17⟩ := (dec_sl dec_Turn) k17
 exact ⟨(a0, a1, a2, a3, a4, a5, a6, a7, a8, a9, a10, a11, a12, a13, a14, a15, a16, a17), by rw [h1, hc]; rfl, ⟨⟨b0, b1, b2, b3, b4, b5⟩, b6, b7, b8, ⟨b9, b10, b11⟩, b12, b13, b14, b15, b16, b17⟩⟩
theorem sz_Work (p : TWork) (hp : OkWork p) (l : Int) (h0 : 0 ≤ l) (hl : l ≤ 1048576) : ∃ r, F_laws_szWork p l = some r ∧ (r ≤ l ∧ (0 ≤ r → SmWork p)) := by
 obtain ⟨o0, o1, o2, o3, o4, o5, o6, o7, o8, o9, o10⟩ := hp
 unfold F_laws_szWork
 obtain ⟨r0, e0, m0, s0⟩ := sz_Raga (p.1, p.2.1, p.2.2.1, p.2.2.2.1, p.2.2.2.2.1, p.2.2.2.2.2.1) o0 l (by omega) (by omega)
 rw [e0]
 rw [Option.bind_some, bif_dec]
 split
 ·exact ⟨_, rfl, by omega, by omega⟩
 obtain ⟨r3, e3, m3, s3⟩ := sz_NoteS p.2.2.2.2.2.2.2.2.1 o3 r0 (by omega) (by omega)
 rw [e3]
 rw [Option.bind_some, bif_dec]
 split
 ·exact ⟨_, rfl, by omega, by omega⟩
 obtain ⟨r4, e4, m4, s4⟩ := sz_Tala (p.2.2.2.2.2.2.2.2.2.1, p.2.2.2.2.2.2.2.2.2.2.1, p.2.2.2.2.2.2.2.2.2.2.2.1) o4 r3 (by omega) (by omega)
 rw [e4]
 rw [Option.bind_some, bif_dec]
 split
 ·exact ⟨_, rfl, by omega, by omega⟩
 have q6 : p.2.2.2.2.2.2.2.2.2.2.2.2.2.1.length ≤ 9223372036854775807 := o6
 rw [w64_id (by omega)]
 rw [bif_dec]
 split
 ·exact ⟨_, rfl, by omega, by omega⟩
 obtain ⟨r10, e10, m10, s10⟩ := sz_TurnS p.2.2.2.2.2.2.2.2.2.2.2.2.2.2.2.2.2 o10 (r4 - (p.2.2.2.2.2.2.2.2.2.2.2.2.2.1.length : Int)) (by omega) (by omega)
 rw [e10]
 rw [Option.bind_some, bif_dec]
 split
 ·exact ⟨_, rfl, by omega, by omega⟩
 exact ⟨_, rfl, by omega, fun _ => ⟨(s0 (by omega)), trivial, trivial, (s3 (by omega)), (s4 (by omega)), trivial, (by show (p.2.2.2.2.2.2.2.2.2.2.2.2.2.1.length : Int) ≤ 1048576; omega), trivial, trivial, trivial, (s10 (by omega))⟩⟩
theorem to_Work (p : TWork) (h : CtWork p) : F_laws_toWork p = some p := by
 obtain ⟨s0, s1, s2, s3, s4, s5, s6, s7, s8, s9, s10⟩ := h
 unfold F_laws_toWork
 simp only [to_Raga _ s0, to_NoteS _ s3, to_Tala _ s4, to_TurnS _ s10, Option.bind_some]
theorem eq_Work (p : TWork) (h : CtWork p) : F_laws_eqWork p p = some true := by
 obtain ⟨s0, s1, s2, s3, s4, s5, s6, s7, s8, s9, s10⟩ := h
 simp [F_laws_eqWork, eq_Raga _ s0, eq_NoteS _ s3, eq_Tala _ s4, eq_TurnS _ s10]
theorem mk_Work (p : TWork) (h : CtWork p) (k : Int) (h1 : 1 ≤ k) (h2 : k + 1099521064971 ≤ 4611686018427387904) : ∃ (p' : TWork) (n : Int), F_laws_markWork p k = some (p', k + n) ∧ 0 ≤ n ∧ n ≤ 1099521064971 ∧ ((p').2.1.length = p.2.1.length ∧ (p').2.2.1.length = p.2.2.1.length ∧ (p').2.2.2.2.2.1.length = p.2.2.2.2.2.1.length ∧ (p').2.2.2.2.2.2.2.2.1.length = p.2.2.2.2.2.2.2.2.1.length ∧ (p').2.2.2.2.2.2.2.2.2.2.1.length = p.2.2.2.2.2.2.2.2.2.2.1.length ∧ (p').2.2.2.2.2.2.2.2.2.2.2.1.length = p.2.2.2.2.2.2.2.2.2.2.2.1.length ∧ (p').2.2.2.2.2.2.2.2.2.2.2.2.2.2.2.2.2.length = p.2.2.2.2.2.2.2.2.2.2.2.2.2.2.2.2.2.length) ∧ CtWork p' ∧ True := by
 obtain ⟨b0, n0, q0, r0, s0, l0, c0, e0⟩ := mk_Raga (p.1, p.2.1, p.2.2.1, p.2.2.2.1, p.2.2.2.2.1, p.2.2.2.2.2.1) h.1 (k) (by omega) (by omega)
 have l0x1 : b0.2.1.length = p.2.1.length := l0.1
 have l0x2 : b0.2.2.1.length = p.2.2.1.length := l0.2.1
 have l0x5 : b0.2.2.2.2.2.length = p.2.2.2.2.2.1.length := l0.2.2
 have d0 : decide ((k + n0 : Int) < 0) = false := decide_eq_false (by omega)
 obtain ⟨b3, n3, q3, r3, s3, l3, c3, e3⟩ := mk_NoteS p.2.2.2.2.2.2.2.2.1 h.2.2.2.1 (k + n0) (by omega) (by omega)
 have d3 : decide ((k + n0 + n3 : Int) < 0) = false := decide_eq_false (by omega)
 obtain ⟨b4, n4, q4, r4, s4, l4, c4, e4⟩ := mk_Tala (p.2.2.2.2.2.2.2.2.2.1, p.2.2.2.2.2.2.2.2.2.2.1, p.2.2.2.2.2.2.2.2.2.2.2.1) h.2.2.2.2.1 (k + n0 + n3) (by omega) (by omega)
 have l4x1 : b4.2.1.length = p.2.2.2.2.2.2.2.2.2.2.1.length := l4.1
 have l4x2 : b4.2.2.length = p.2.2.2.2.2.2.2.2.2.2.2.1.length := l4.2
 have d4 : decide ((k + n0 + n3 + n4 : Int) < 0) = false := decide_eq_false (by omega)
 obtain ⟨b10, n10, q10, r10, s10, l10, c10, e10⟩ := mk_TurnS p.2.2.2.2.2.2.2.2.2.2.2.2.2.2.2.2.2 h.2.2.2.2.2.2.2.2.2.2 (k + n0 + n3 + n4) (by omega) (by omega)
 have d10 : decide ((k + n0 + n3 + n4 + n10 : Int) < 0) = false := decide_eq_false (by omega)
 have eK : k + n0 + n3 + n4 + n10 = k + (n0 + n3 + n4 + n10) := by omega
 have wE : w64 (k + (n0 + n3 + n4 + n10)) = k + (n0 + n3 + n4 + n10) := w64_id (by omega)
 refine ⟨(p.1, b0.2.1, b0.2.2.1, p.2.2.2.1, p.2.2.2.2.1, b0.2.2.2.2.2, p.2.2.2.2.2.2.1, p.2.2.2.2.2.2.2.1, b3, p.2.2.2.2.2.2.2.2.2.1, b4.2.1, b4.2.2, p.2.2.2.2.2.2.2.2.2.2.2.2.1, p.2.2.2.2.2.2.2.2.2.2.2.2.2.1, p.2.2.2.2.2.2.2.2.2.2.2.2.2.2.1, p.2.2.2.2.2.2.2.2.2.2.2.2.2.2.2.1, p.2.2.2.2.2.2.2.2.2.2.2.2.2.2.2.2.1, b10), n0 + n3 + n4 + n10, ?_, by omega, by omega, ⟨l0x1, l0x2, l0x5, l3, l4x1, l4x2, l10⟩, ⟨c0, trivial, trivial, c3, c4, trivial, trivial, trivial, trivial, trivial, c10⟩, ?_⟩
 ·simp only [F_laws_markWork, q0, need_true l0x1, need_true l0x2, need_true l0x5, q3, need_true l3, q4, need_true l4x1, need_true l4x2, q10, need_true l10, Option.bind_some, eK, wE]
 ·trivial
noncomputable def OkProblem (p : TProblem) : Prop := OkI p.1 ∧ OkS p.2.1 ∧ OkS p.2.2
noncomputable def SmProblem (p : TProblem) : Prop := (fun _ => True) p.1 ∧ SmS p.2.1 ∧ SmS p.2.2
noncomputable def CtProblem (p : TProblem) : Prop := (fun _ => True) p.1 ∧ (fun _ => True) p.2.1 ∧ (fun _ => True) p.2.2
theorem ctsm_Problem (p : TProblem) (h : SmProblem p) : CtProblem p := by
 obtain ⟨h0, h1, h2⟩ := h
 exact ⟨trivial, trivial, trivial⟩
theorem dec_Problem (x : V) (h : Elem true [.int .i64, .str, .str] x) : ∃ p : TProblem, x = eProblem p ∧ OkProblem p := by
 obtain ⟨h1, h2⟩ := h
 have h1 : x = .agg x.cells := h1
 obtain ⟨v0, l0, hc, k0, v1, l1, rfl, k1, v2, l2, rfl, k2, rfl⟩ := h2
 obtain ⟨a0, rfl, b0⟩ := dec_i64 k0
 obtain ⟨a1, rfl, b1⟩ := dec_str k1
 obtain ⟨a2, rfl, b2⟩ := dec_str k2
 exact ⟨(a0, a1, a2), by rw [h1, hc]; rfl, ⟨b0, b1, b2⟩⟩
theorem eq_Problem (p : TProblem) (h : CtProblem p) : F_laws_eqProblem p p = some true := by
 obtain ⟨s0, s1, s2⟩ := h
 simp [F_laws_eqProblem]
theorem eq_ProblemS (L : List TProblem) (h : (SmL CtProblem) L) : F_laws_eqProblemS L L = some true := by
 have hL := h.1
 unfold F_laws_eqProblemS
 simp only [ne_eq, not_true_eq_false, decide_false, bif_f]
 rw [loop_all (L := L) (fun _ => true) (by omega)]
 ·simp
 ·intro i k a ha hi
  simp only [F_laws_eqProblemS_l0, int_lt (get_lt ha), ix_get ha, w64_succ hi, Option.bind_some, bif_t, eq_Problem a (h.2 a (get_mem ha)), Bool.not_true, bif_f]
 ·intro k; simp [F_laws_eqProblemS_l0]
noncomputable def HProblemS (x : TProblem) (k n : Int) : Prop := x.1 = k ∧ x.2.1 = mt (k + 1) ∧ x.2.2 = mt (k + 1 + 1) ∧ n = 3
theorem mk_ProblemS (L : List TProblem) (h : (SmL CtProblem) L) (k : Int) (h1 : 1 ≤ k) (h2 : k + 3145728 ≤ 4611686018427387904) : ∃ L' n, F_laws_markProblemS L k = some (L', k + n) ∧ 0 ≤ n ∧ n ≤ 3145728 ∧ L'.length = L.length ∧ (SmL CtProblem) L' ∧ F_laws_heldProblemS L' k = some (k + n) := by
 have key : ∃ L' n, loop F_laws_markProblemS_l0 (k, 0, L) = some (L', k + n) ∧ 0 ≤ n ∧ n ≤ 1048576 * 3 ∧ L'.length = L.length ∧ (∀ a ∈ L', CtProblem a) ∧ Marked HProblemS L' k n := by
  refine mark_loop HProblemS CtProblem 3 (by omega) L k h.1 h1 (by omega) h.2 ?_ ?_
  ·intro i k M a K ha hi hp hk hb
   have w0 : w64 (k + 1) = k + 1 := w64_id (by omega)
   have t1 := markText_mt (k + 1) (by omega) (by omega)
   have w1 : w64 (k + 1 + 1) = k + 1 + 1 := w64_id (by omega)
   have t2 := markText_mt (k + 1 + 1) (by omega) (by omega)
   have w2 : w64 (k + 1 + 1 + 1) = k + 1 + 1 + 1 := w64_id (by omega)
   refine ⟨(k, mt (k + 1), mt (k + 1 + 1)), 3, ⟨rfl, rfl, rfl, rfl⟩, by omega, by omega, ⟨trivial, trivial, trivial⟩, ?_⟩
   have eK : k + 1 + 1 + 1 = k + (3) := by omega
   have wE : w64 (k + (3)) = k + (3) := w64_id (by omega)
   simp only [F_laws_markProblemS_l0, int_lt (get_lt ha), ix_get ha, Option.bind_some, bif_t, w64_succ hi, Int.toNat_natCast, int_lt_set, ix_set (get_lt ha), List.set_set, List.length_set, w0, t1, w1, t2, w2, eK, wE]
  ·intro k M K; simp [F_laws_markProblemS_l0]
 obtain ⟨L', n, q1, q2, q3, q4, q5, q6⟩ := key
 refine ⟨L', n, q1, q2, by omega, q4, ⟨by rw [q4]; exact h.1, q5⟩, ?_⟩
 refine held_loop (body := F_laws_heldProblemS_l0 L') q6 (by rw [q4]; exact h.1) q2 h1 (by omega) ?_ ?_
 ·rintro i k a n K ha hi ⟨p0, p1, p2, rfl⟩ hn hk hb
  have w0 : w64 (k + 1) = k + 1 := w64_id (by omega)
  have t1 := markText_mt (k + 1) (by omega) (by omega)
  have w1 : w64 (k + 1 + 1) = k + 1 + 1 := w64_id (by omega)
  have t2 := markText_mt (k + 1 + 1) (by omega) (by omega)
  have w2 : w64 (k + 1 + 1 + 1) = k + 1 + 1 + 1 := w64_id (by omega)
  have eK : k + 1 + 1 + 1 = k + (3) := by omega
  have wE : w64 (k + (3)) = k + (3) := w64_id (by omega)
  have dE : decide ((k + (3) : Int) < 0) = false := decide_eq_false (by omega)
  simp only [F_laws_heldProblemS_l0, int_lt (get_lt ha), ix_get ha, Option.bind_some, bif_t, w64_succ hi, Int.toNat_natCast, p0, w0, t1, p1, w1, t2, p2, w2, ne_eq, not_true_eq_false, decide_false, bif_f, eK, wE, dE]
 ·intro k K; simp [F_laws_heldProblemS_l0]
end Go.Ab
