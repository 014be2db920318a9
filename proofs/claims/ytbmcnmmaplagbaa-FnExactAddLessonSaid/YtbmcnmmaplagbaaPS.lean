/- The laws' helpers over plain data (own text, printed by sup.py). -/
import Derived.Test.YtbmcnmmaplagbaaU1
import Derived.Test.YtbmcnmmaplagbaaPM
set_option linter.unusedVariables false
set_option linter.unusedSimpArgs false
namespace Go.Ab
open Go.RowKit
def SmS (s : List UInt8) : Prop := (s.length : Int) ≤ 1048576
def SmL {α : Type} (P : α → Prop) (L : List α) : Prop := (L.length : Int) ≤ 1048576 ∧ ∀ a ∈ L, P a
theorem int_lt_set {α : Type} {L : List α} {i : Nat} {a : α} : (List.set L i a).length = L.length := List.length_set
theorem ix_set {α : Type} {L : List α} {i : Nat} {a : α} (h : i < L.length) : ix (L.set i a) (i : Int) = some a := by rw [ix_nat, List.getElem?_set_self h]
/-- The text of a mark. -/
noncomputable def mt (k : Int) : List UInt8 := (F_laws_markText k).getD []
theorem markText_mt (k : Int) (h1 : 1 ≤ k) (h2 : k ≤ 4611686018427387904) : F_laws_markText k = some (mt k) := by
  have key : ∃ r, F_laws_markText k = some r ∧ True := by
    unfold F_laws_markText
    rw [decide_eq_false (by omega), bif_f]
    refine loop_mu (fun s => 0 ≤ s.1 ∧ s.1 + (s.2.length : Int) ≤ 4611686018427387904) (fun s => s.1.toNat) ⟨by dsimp only; omega, by simp; omega⟩ (lt_lim (by dsimp only; omega)) ?_
    rintro ⟨v, t⟩ K ⟨q1, q2⟩ hK
    dsimp only at q1 q2 hK
    have hb : ∀ x : Int, (bytesI [x]).length = 1 := fun _ => rfl
    simp only [F_laws_markText_l0, bif_dec]
    split
    · rename_i hv
      have e1 : Int.tdiv v 10 = v / 10 := Int.tdiv_eq_ediv_of_nonneg q1
      rw [need_true (by rw [hb]; omega), e1, w64_id (by omega)]
      refine hK _ ⟨by dsimp only; omega, ?_⟩ (by dsimp only; omega)
      simp only [List.length_append, hb]
      omega
    · rw [need_true (by simp only [List.length_cons, List.length_nil]; omega)]
      exact ⟨_, rfl, trivial⟩
  obtain ⟨r, h, _⟩ := key
  rw [mt, h]; rfl
noncomputable def OkLesson (p : TLesson) : Prop := OkI p.1 ∧ OkS p.2.1 ∧ OkS p.2.2.1 ∧ OkI p.2.2.2.1 ∧ OkI p.2.2.2.2
noncomputable def SmLesson (p : TLesson) : Prop := (fun _ => True) p.1 ∧ SmS p.2.1 ∧ SmS p.2.2.1 ∧ (fun _ => True) p.2.2.2.1 ∧ (fun _ => True) p.2.2.2.2
noncomputable def CtLesson (p : TLesson) : Prop := (fun _ => True) p.1 ∧ (fun _ => True) p.2.1 ∧ (fun _ => True) p.2.2.1 ∧ (fun _ => True) p.2.2.2.1 ∧ (fun _ => True) p.2.2.2.2
theorem ctsm_Lesson (p : TLesson) (h : SmLesson p) : CtLesson p := by
  obtain ⟨h0, h1, h2, h3, h4⟩ := h
  exact ⟨trivial, trivial, trivial, trivial, trivial⟩
theorem dec_Lesson (x : V) (h : Elem true [.int .i64, .str, .str, .int .i64, .int .i64] x) : ∃ p : TLesson, x = eLesson p ∧ OkLesson p := by
  obtain ⟨h1, h2⟩ := h
  have h1 : x = .agg x.cells := h1
  obtain ⟨v0, l0, hc, k0, v1, l1, rfl, k1, v2, l2, rfl, k2, v3, l3, rfl, k3, v4, l4, rfl, k4, rfl⟩ := h2
  obtain ⟨a0, rfl, b0⟩ := dec_i64 k0
  obtain ⟨a1, rfl, b1⟩ := dec_str k1
  obtain ⟨a2, rfl, b2⟩ := dec_str k2
  obtain ⟨a3, rfl, b3⟩ := dec_i64 k3
  obtain ⟨a4, rfl, b4⟩ := dec_i64 k4
  exact ⟨(a0, a1, a2, a3, a4), by rw [h1, hc]; rfl, ⟨b0, b1, b2, b3, b4⟩⟩
theorem sz_Lesson (p : TLesson) (hp : OkLesson p) (l : Int) (h0 : 0 ≤ l) (hl : l ≤ 1048576) : ∃ r, F_laws_szLesson p l = some r ∧ (r ≤ l ∧ (0 ≤ r → SmLesson p)) := by
  obtain ⟨o0, o1, o2, o3, o4⟩ := hp
  unfold F_laws_szLesson
  have q1 : p.2.1.length ≤ 9223372036854775807 := o1
  rw [w64_id (by omega)]
  rw [bif_dec]
  split
  · exact ⟨_, rfl, by omega, by omega⟩
  have q2 : p.2.2.1.length ≤ 9223372036854775807 := o2
  rw [w64_id (by omega)]
  rw [bif_dec]
  split
  · exact ⟨_, rfl, by omega, by omega⟩
  exact ⟨_, rfl, by omega, fun _ => ⟨trivial, (by show (p.2.1.length : Int) ≤ 1048576; omega), (by show (p.2.2.1.length : Int) ≤ 1048576; omega), trivial, trivial⟩⟩
theorem to_Lesson (p : TLesson) (h : CtLesson p) : F_laws_toLesson p = some p := by
  obtain ⟨s0, s1, s2, s3, s4⟩ := h
  unfold F_laws_toLesson
  rfl
theorem eq_Lesson (p : TLesson) (h : CtLesson p) : F_laws_eqLesson p p = some true := by
  obtain ⟨s0, s1, s2, s3, s4⟩ := h
  simp [F_laws_eqLesson]
theorem sz_LessonS (L : List TLesson) (hp : (OkL OkLesson) L) (l : Int) (h0 : 0 ≤ l) (hl : l ≤ 1048576) : ∃ r, F_laws_szLessonS L l = some r ∧ (r ≤ l ∧ (0 ≤ r → (SmL SmLesson) L)) := by
  obtain ⟨hL, hs⟩ := hp
  unfold F_laws_szLessonS
  rw [w64_id (by omega)]
  simp only [bif_dec]
  split
  · exact ⟨_, rfl, by omega, by omega⟩
  · refine loop_ex (L := L) (fun i s => s.2 = (i : Int) ∧ 0 ≤ s.1 ∧ s.1 ≤ l - (L.length : Int) ∧ ∀ x ∈ L.take i, SmLesson x) hL ⟨rfl, by omega, by simp, by simp⟩ ?_ ?_
    · rintro i ⟨m, j⟩ k a ha hi ⟨rfl, h1, h2, h3⟩ hk
      dsimp only at h1 h2 h3
      have oa := hs a (get_mem ha)
      obtain ⟨r, q1, q2, q3⟩ := sz_Lesson a oa m h1 (by omega)
      simp only [F_laws_szLessonS_l0, int_lt (get_lt ha), ix_get ha, Option.bind_some, bif_t, bif_dec, q1]
      split
      · exact ⟨_, rfl, by omega, by omega⟩
      · rw [w64_succ hi]
        refine hk _ ⟨rfl, by dsimp only; omega, by dsimp only; omega, ?_⟩
        intro x hx
        rw [take_succ ha] at hx
        rcases List.mem_append.1 hx with hx | hx
        · exact h3 x hx
        · rw [List.mem_singleton.1 hx]; exact (q3 (by omega))
    · rintro ⟨m, j⟩ k ⟨rfl, h1, h2, h3⟩
      dsimp only at h1 h2 h3
      simp only [F_laws_szLessonS_l0, int_lt_self, bif_f]
      rw [take_all (Nat.le_refl _)] at h3
      exact ⟨_, rfl, by omega, fun _ => ⟨by omega, h3⟩⟩
theorem to_LessonS (L : List TLesson) (h : (SmL CtLesson) L) : F_laws_toLessonS L = some L := by
  have hL := h.1
  unfold F_laws_toLessonS
  rw [need_true (by omega)]
  have := loop_ex (body := F_laws_toLessonS_l0 L) (L := L) (s0 := (0, List.replicate ((L.length : Int)).toNat ((0, [], [], 0, 0) : TLesson))) (Q := fun r => r = L) (fun i s => s.1 = (i : Int) ∧ s.2.length = L.length ∧ s.2.take i = L.take i) (by omega) ⟨rfl, by simp, by simp⟩ ?_ ?_
  · obtain ⟨r, h1, rfl⟩ := this; exact h1
  · rintro i ⟨j, M⟩ k a ha hi ⟨rfl, h1, h2⟩ hk
    dsimp only at h1 h2
    have hl := get_lt ha
    obtain ⟨b, hb⟩ := get_some (L := M) (n := i) (by omega)
    simp only [F_laws_toLessonS_l0, int_lt hl, ix_get ha, ix_get hb, Option.bind_some, bif_t, w64_succ hi, Int.toNat_natCast, to_Lesson a (h.2 a (get_mem ha))]
    refine hk _ ⟨rfl, by simpa using h1, ?_⟩
    dsimp only
    rw [take_succ ha, take_succ (set_get hb), List.take_set_of_le (Nat.le_refl _), h2]
  · rintro ⟨j, M⟩ k ⟨rfl, h1, h2⟩
    dsimp only at h1 h2
    simp only [F_laws_toLessonS_l0, int_lt_self, bif_f]
    rw [take_all (Nat.le_of_eq h1), take_all (Nat.le_refl _)] at h2
    exact ⟨_, rfl, h2⟩
theorem eq_LessonS (L : List TLesson) (h : (SmL CtLesson) L) : F_laws_eqLessonS L L = some true := by
  have hL := h.1
  unfold F_laws_eqLessonS
  simp only [ne_eq, not_true_eq_false, decide_false, bif_f]
  rw [loop_all (L := L) (fun _ => true) (by omega)]
  · simp
  · intro i k a ha hi
    simp only [F_laws_eqLessonS_l0, int_lt (get_lt ha), ix_get ha, w64_succ hi, Option.bind_some, bif_t, eq_Lesson a (h.2 a (get_mem ha)), Bool.not_true, bif_f]
  · intro k; simp [F_laws_eqLessonS_l0]
noncomputable def HLessonS (x : TLesson) (k n : Int) : Prop := x.1 = k ∧ x.2.1 = mt (k + 1) ∧ x.2.2.1 = mt (k + 1 + 1) ∧ x.2.2.2.1 = k + 1 + 1 + 1 ∧ x.2.2.2.2 = k + 1 + 1 + 1 + 1 ∧ n = 5
theorem mk_LessonS (L : List TLesson) (h : (SmL CtLesson) L) (k : Int) (h1 : 1 ≤ k) (h2 : k + 5242880 ≤ 4611686018427387904) : ∃ L' n, F_laws_markLessonS L k = some (L', k + n) ∧ 0 ≤ n ∧ n ≤ 5242880 ∧ L'.length = L.length ∧ (SmL CtLesson) L' ∧ F_laws_heldLessonS L' k = some (k + n) := by
  have key : ∃ L' n, loop F_laws_markLessonS_l0 (k, 0, L) = some (L', k + n) ∧ 0 ≤ n ∧ n ≤ 1048576 * 5 ∧ L'.length = L.length ∧ (∀ a ∈ L', CtLesson a) ∧ Marked HLessonS L' k n := by
    refine mark_loop HLessonS CtLesson 5 (by omega) L k h.1 h1 (by omega) h.2 ?_ ?_
    · intro i k M a K ha hi hp hk hb
      have w0 : w64 (k + 1) = k + 1 := w64_id (by omega)
      have t1 := markText_mt (k + 1) (by omega) (by omega)
      have w1 : w64 (k + 1 + 1) = k + 1 + 1 := w64_id (by omega)
      have t2 := markText_mt (k + 1 + 1) (by omega) (by omega)
      have w2 : w64 (k + 1 + 1 + 1) = k + 1 + 1 + 1 := w64_id (by omega)
      have w3 : w64 (k + 1 + 1 + 1 + 1) = k + 1 + 1 + 1 + 1 := w64_id (by omega)
      have w4 : w64 (k + 1 + 1 + 1 + 1 + 1) = k + 1 + 1 + 1 + 1 + 1 := w64_id (by omega)
      refine ⟨(k, mt (k + 1), mt (k + 1 + 1), k + 1 + 1 + 1, k + 1 + 1 + 1 + 1), 5, ⟨rfl, rfl, rfl, rfl, rfl, rfl⟩, by omega, by omega, ⟨trivial, trivial, trivial, trivial, trivial⟩, ?_⟩
      have eK : k + 1 + 1 + 1 + 1 + 1 = k + (5) := by omega
      have wE : w64 (k + (5)) = k + (5) := w64_id (by omega)
      simp only [F_laws_markLessonS_l0, int_lt (get_lt ha), ix_get ha, Option.bind_some, bif_t, w64_succ hi, Int.toNat_natCast, int_lt_set, ix_set (get_lt ha), List.set_set, List.length_set, w0, t1, w1, t2, w2, w3, w4, eK, wE]
    · intro k M K; simp [F_laws_markLessonS_l0]
  obtain ⟨L', n, q1, q2, q3, q4, q5, q6⟩ := key
  refine ⟨L', n, q1, q2, by omega, q4, ⟨by rw [q4]; exact h.1, q5⟩, ?_⟩
  refine held_loop (body := F_laws_heldLessonS_l0 L') q6 (by rw [q4]; exact h.1) q2 h1 (by omega) ?_ ?_
  · rintro i k a n K ha hi ⟨p0, p1, p2, p3, p4, rfl⟩ hn hk hb
    have w0 : w64 (k + 1) = k + 1 := w64_id (by omega)
    have t1 := markText_mt (k + 1) (by omega) (by omega)
    have w1 : w64 (k + 1 + 1) = k + 1 + 1 := w64_id (by omega)
    have t2 := markText_mt (k + 1 + 1) (by omega) (by omega)
    have w2 : w64 (k + 1 + 1 + 1) = k + 1 + 1 + 1 := w64_id (by omega)
    have w3 : w64 (k + 1 + 1 + 1 + 1) = k + 1 + 1 + 1 + 1 := w64_id (by omega)
    have w4 : w64 (k + 1 + 1 + 1 + 1 + 1) = k + 1 + 1 + 1 + 1 + 1 := w64_id (by omega)
    have eK : k + 1 + 1 + 1 + 1 + 1 = k + (5) := by omega
    have wE : w64 (k + (5)) = k + (5) := w64_id (by omega)
    simp only [F_laws_heldLessonS_l0, int_lt (get_lt ha), ix_get ha, Option.bind_some, bif_t, w64_succ hi, Int.toNat_natCast, p0, w0, t1, p1, w1, t2, p2, w2, p3, w3, p4, w4, ne_eq, not_true_eq_false, decide_false, bif_f, eK, wE]
  · intro k K; simp [F_laws_heldLessonS_l0]
end Go.Ab
