import Derived.Test.YtdedhldojkdceaaGreatU5
import Derived.Test.YtdedhldojkdceaaGreatPM
set_option linter.unusedVariables false
set_option linter.unusedSimpArgs false
namespace Go.Ab
open Go.RowKit
def SmS (s : List UInt8) : Prop := (s.length : Int) ≤ 1048576
def SmL {α : Type} (P : α → Prop) (L : List α) : Prop := (L.length : Int) ≤ 1048576 ∧ ∀ a ∈ L, P a
theorem int_lt_set {α : Type} {L : List α} {i : Nat} {a : α} : (List.set L i a).length = L.length := List.length_set
theorem ix_set {α : Type} {L : List α} {i : Nat} {a : α} (h : i < L.length) : ix (L.set i a) (i : Int) = some a := by rw [ix_nat, List.getElem?_set_self h]
theorem sz_Int64S (L : List Int) (hp : (OkL OkI) L) (l : Int) (h0 : 0 ≤ l) (hl : l ≤ 1048576) : ∃ r, F_laws_szInt64S L l = some r ∧ (r ≤ l ∧ (0 ≤ r → (SmL (fun _ => True)) L)) := by
 obtain ⟨hL, hs⟩ := hp
 unfold F_laws_szInt64S
 rw [w64_id (by omega)]
 simp only [bif_dec]
 split
 ·exact ⟨_, rfl, by omega, by omega⟩
 ·exact ⟨_, rfl, by omega, fun _ => ⟨by omega, fun a _ => trivial⟩⟩
theorem to_Int64S (L : List Int) (h : (SmL (fun _ => True)) L) : F_laws_toInt64S L = some L := by
 have hL := h.1
 unfold F_laws_toInt64S
 rw [need_true (by omega)]
 have := loop_ex (body := F_laws_toInt64S_l0 L) (L := L) (s0 := (0, List.replicate ((L.length : Int)).toNat (0 : Int))) (Q := fun r => r = L) (fun i s => s.1 = (i : Int) ∧ s.2.length = L.length ∧ s.2.take i = L.take i) (by omega) ⟨rfl, by simp, by simp⟩ ?_ ?_
 ·obtain ⟨r, h1, rfl⟩ := this; exact h1
 ·rintro i ⟨j, M⟩ k a ha hi ⟨rfl, h1, h2⟩ hk
  dsimp only at h1 h2
  have hl := get_lt ha
  obtain ⟨b, hb⟩ := get_some (L := M) (n := i) (by omega)
  simp only [F_laws_toInt64S_l0, int_lt hl, ix_get ha, ix_get hb, Option.bind_some, bif_t, w64_succ hi, Int.toNat_natCast]
  refine hk _ ⟨rfl, by simpa using h1, ?_⟩
  dsimp only
  rw [take_succ ha, take_succ (set_get hb), List.take_set_of_le (Nat.le_refl _), h2]
 ·rintro ⟨j, M⟩ k ⟨rfl, h1, h2⟩
  dsimp only at h1 h2
  simp only [F_laws_toInt64S_l0, int_lt_self, bif_f]
  rw [take_all (Nat.le_of_eq h1), take_all (Nat.le_refl _)] at h2
  exact ⟨_, rfl, h2⟩
theorem eq_Int64S (L : List Int) (h : (SmL (fun _ => True)) L) : F_laws_eqInt64S L L = some true := by
 have hL := h.1
 unfold F_laws_eqInt64S
 simp only [ne_eq, not_true_eq_false, decide_false, bif_f]
 rw [loop_all (L := L) (fun _ => true) (by omega)]
 ·simp
 ·intro i k a ha hi
  simp only [F_laws_eqInt64S_l0, int_lt (get_lt ha), ix_get ha, w64_succ hi, Option.bind_some, bif_t, ne_eq, not_true_eq_false, decide_false, bif_f]
 ·intro k; simp [F_laws_eqInt64S_l0]
theorem sz_Int64SS (L : List (List Int)) (hp : (OkL (OkL OkI)) L) (l : Int) (h0 : 0 ≤ l) (hl : l ≤ 1048576) : ∃ r, F_laws_szInt64SS L l = some r ∧ (r ≤ l ∧ (0 ≤ r → (SmL (SmL (fun _ => True))) L)) := by
 obtain ⟨hL, hs⟩ := hp
 unfold F_laws_szInt64SS
 rw [w64_id (by omega)]
 simp only [bif_dec]
 split
 ·exact ⟨_, rfl, by omega, by omega⟩
 ·refine loop_ex (L := L) (fun i s => s.2 = (i : Int) ∧ 0 ≤ s.1 ∧ s.1 ≤ l - (L.length : Int) ∧ ∀ x ∈ L.take i, (SmL (fun _ => True)) x) hL ⟨rfl, by omega, by simp, by simp⟩ ?_ ?_
  ·rintro i ⟨m, j⟩ k a ha hi ⟨rfl, h1, h2, h3⟩ hk
   dsimp only at h1 h2 h3
   have oa := hs a (get_mem ha)
   obtain ⟨r, q1, q2, q3⟩ := sz_Int64S a oa m h1 (by omega)
   simp only [F_laws_szInt64SS_l0, int_lt (get_lt ha), ix_get ha, Option.bind_some, bif_t, bif_dec, q1]
   split
   ·exact ⟨_, rfl, by omega, by omega⟩
   ·rw [w64_succ hi]
    refine hk _ ⟨rfl, by dsimp only; omega, by dsimp only; omega, ?_⟩
    intro x hx
    rw [take_succ ha] at hx
    rcases List.mem_append.1 hx with hx | hx
    ·exact h3 x hx
    ·rw [List.mem_singleton.1 hx]; exact (q3 (by omega))
  ·rintro ⟨m, j⟩ k ⟨rfl, h1, h2, h3⟩
   dsimp only at h1 h2 h3
   simp only [F_laws_szInt64SS_l0, int_lt_self, bif_f]
   rw [take_all (Nat.le_refl _)] at h3
   exact ⟨_, rfl, by omega, fun _ => ⟨by omega, h3⟩⟩
theorem to_Int64SS (L : List (List Int)) (h : (SmL (SmL (fun _ => True))) L) : F_laws_toInt64SS L = some L := by
 have hL := h.1
 unfold F_laws_toInt64SS
 rw [need_true (by omega)]
 have := loop_ex (body := F_laws_toInt64SS_l0 L) (L := L) (s0 := (0, List.replicate ((L.length : Int)).toNat ([] : List Int))) (Q := fun r => r = L) (fun i s => s.1 = (i : Int) ∧ s.2.length = L.length ∧ s.2.take i = L.take i) (by omega) ⟨rfl, by simp, by simp⟩ ?_ ?_
 ·obtain ⟨r, h1, rfl⟩ := this; exact h1
 ·rintro i ⟨j, M⟩ k a ha hi ⟨rfl, h1, h2⟩ hk
  dsimp only at h1 h2
  have hl := get_lt ha
  obtain ⟨b, hb⟩ := get_some (L := M) (n := i) (by omega)
  simp only [F_laws_toInt64SS_l0, int_lt hl, ix_get ha, ix_get hb, Option.bind_some, bif_t, w64_succ hi, Int.toNat_natCast, to_Int64S a (h.2 a (get_mem ha))]
  refine hk _ ⟨rfl, by simpa using h1, ?_⟩
  dsimp only
  rw [take_succ ha, take_succ (set_get hb), List.take_set_of_le (Nat.le_refl _), h2]
 ·rintro ⟨j, M⟩ k ⟨rfl, h1, h2⟩
  dsimp only at h1 h2
  simp only [F_laws_toInt64SS_l0, int_lt_self, bif_f]
  rw [take_all (Nat.le_of_eq h1), take_all (Nat.le_refl _)] at h2
  exact ⟨_, rfl, h2⟩
theorem eq_Int64SS (L : List (List Int)) (h : (SmL (SmL (fun _ => True))) L) : F_laws_eqInt64SS L L = some true := by
 have hL := h.1
 unfold F_laws_eqInt64SS
 simp only [ne_eq, not_true_eq_false, decide_false, bif_f]
 rw [loop_all (L := L) (fun _ => true) (by omega)]
 ·simp
 ·intro i k a ha hi
  simp only [F_laws_eqInt64SS_l0, int_lt (get_lt ha), ix_get ha, w64_succ hi, Option.bind_some, bif_t, eq_Int64S a (h.2 a (get_mem ha)), Bool.not_true, bif_f]
 ·intro k; simp [F_laws_eqInt64SS_l0]
noncomputable def OkRaga (p : TRaga) : Prop := OkS p.1 ∧ (OkL OkI) p.2.1 ∧ (OkL OkI) p.2.2.1 ∧ OkI p.2.2.2.1 ∧ OkI p.2.2.2.2.1 ∧ (OkL (OkL OkI)) p.2.2.2.2.2
noncomputable def SmRaga (p : TRaga) : Prop := SmS p.1 ∧ (SmL (fun _ => True)) p.2.1 ∧ (SmL (fun _ => True)) p.2.2.1 ∧ (fun _ => True) p.2.2.2.1 ∧ (fun _ => True) p.2.2.2.2.1 ∧ (SmL (SmL (fun _ => True))) p.2.2.2.2.2
noncomputable def CtRaga (p : TRaga) : Prop := (fun _ => True) p.1 ∧ (SmL (fun _ => True)) p.2.1 ∧ (SmL (fun _ => True)) p.2.2.1 ∧ (fun _ => True) p.2.2.2.1 ∧ (fun _ => True) p.2.2.2.2.1 ∧ (SmL (SmL (fun _ => True))) p.2.2.2.2.2
theorem ctsm_Raga (p : TRaga) (h : SmRaga p) : CtRaga p := by
 obtain ⟨h0, h1, h2, h3, h4, h5⟩ := h
 exact ⟨trivial, ⟨h1.1, fun a ha => trivial⟩, ⟨h2.1, fun a ha => trivial⟩, trivial, trivial, ⟨h5.1, fun a ha => ⟨(h5.2 a ha).1, fun a ha => trivial⟩⟩⟩
theorem dec_Raga (x : V) (h : Elem true [.str, .sl 1 false [.int .i64], .sl 1 false [.int .i64], .int .i64, .int .i64, .sl 1 false [.sl 1 false [.int .i64]]] x) : ∃ p : TRaga, x = eRaga p ∧ OkRaga p := by
 obtain ⟨h1, h2⟩ := h
 have h1 : x = .agg x.cells := h1
 obtain ⟨v0, l0, hc, k0, v1, l1, rfl, k1, v2, l2, rfl, k2, v3, l3, rfl, k3, v4, l4, rfl, k4, v5, l5, rfl, k5, rfl⟩ := h2
 obtain ⟨a0, rfl, b0⟩ := dec_str k0
 obtain ⟨a1, rfl, b1⟩ := (dec_sl (dec_one fun _ h => dec_i64 h)) k1
 obtain ⟨a2, rfl, b2⟩ := (dec_sl (dec_one fun _ h => dec_i64 h)) k2
 obtain ⟨a3, rfl, b3⟩ := dec_i64 k3
 obtain ⟨a4, rfl, b4⟩ := dec_i64 k4
 obtain ⟨a5, rfl, b5⟩ := (dec_sl (dec_one fun _ h => (dec_sl (dec_one fun _ h => dec_i64 h)) h)) k5
 exact ⟨(a0, a1, a2, a3, a4, a5), by rw [h1, hc]; rfl, ⟨b0, b1, b2, b3, b4, b5⟩⟩
theorem sz_Raga (p : TRaga) (hp : OkRaga p) (l : Int) (h0 : 0 ≤ l) (hl : l ≤ 1048576) : ∃ r, F_laws_szRaga p l = some r ∧ (r ≤ l ∧ (0 ≤ r → SmRaga p)) := by
 obtain ⟨o0, o1, o2, o3, o4, o5⟩ := hp
 unfold F_laws_szRaga
 have q0 : p.1.length ≤ 9223372036854775807 := o0
 rw [w64_id (by omega)]
 rw [bif_dec]
 split
 ·exact ⟨_, rfl, by omega, by omega⟩
 obtain ⟨r1, e1, m1, s1⟩ := sz_Int64S p.2.1 o1 (l - (p.1.length : Int)) (by omega) (by omega)
 rw [e1]
 rw [Option.bind_some, bif_dec]
 split
 ·exact ⟨_, rfl, by omega, by omega⟩
 obtain ⟨r2, e2, m2, s2⟩ := sz_Int64S p.2.2.1 o2 r1 (by omega) (by omega)
 rw [e2]
 rw [Option.bind_some, bif_dec]
 split
 ·exact ⟨_, rfl, by omega, by omega⟩
 obtain ⟨r5, e5, m5, s5⟩ := sz_Int64SS p.2.2.2.2.2 o5 r2 (by omega) (by omega)
 rw [e5]
 rw [Option.bind_some, bif_dec]
 split
 ·exact ⟨_, rfl, by omega, by omega⟩
 exact ⟨_, rfl, by omega, fun _ => ⟨(by show (p.1.length : Int) ≤ 1048576; omega), (s1 (by omega)), (s2 (by omega)), trivial, trivial, (s5 (by omega))⟩⟩
theorem to_Raga (p : TRaga) (h : CtRaga p) : F_laws_toRaga p = some p := by
 obtain ⟨s0, s1, s2, s3, s4, s5⟩ := h
 unfold F_laws_toRaga
 simp only [to_Int64S _ s1, to_Int64S _ s2, to_Int64SS _ s5, Option.bind_some]
theorem eq_Raga (p : TRaga) (h : CtRaga p) : F_laws_eqRaga p p = some true := by
 obtain ⟨s0, s1, s2, s3, s4, s5⟩ := h
 simp [F_laws_eqRaga, eq_Int64S _ s1, eq_Int64S _ s2, eq_Int64SS _ s5]
noncomputable def OkNote (p : TNote) : Prop := OkI p.1 ∧ OkI p.2
noncomputable def SmNote (p : TNote) : Prop := (fun _ => True) p.1 ∧ (fun _ => True) p.2
noncomputable def CtNote (p : TNote) : Prop := (fun _ => True) p.1 ∧ (fun _ => True) p.2
theorem ctsm_Note (p : TNote) (h : SmNote p) : CtNote p := by
 obtain ⟨h0, h1⟩ := h
 exact ⟨trivial, trivial⟩
theorem dec_Note (x : V) (h : Elem true [.int .i64, .int .i64] x) : ∃ p : TNote, x = eNote p ∧ OkNote p := by
 obtain ⟨h1, h2⟩ := h
 have h1 : x = .agg x.cells := h1
 obtain ⟨v0, l0, hc, k0, v1, l1, rfl, k1, rfl⟩ := h2
 obtain ⟨a0, rfl, b0⟩ := dec_i64 k0
 obtain ⟨a1, rfl, b1⟩ := dec_i64 k1
 exact ⟨(a0, a1), by rw [h1, hc]; rfl, ⟨b0, b1⟩⟩
theorem to_Note (p : TNote) (h : CtNote p) : F_laws_toNote p = some p := by
 obtain ⟨s0, s1⟩ := h
 unfold F_laws_toNote
 rfl
theorem eq_Note (p : TNote) (h : CtNote p) : F_laws_eqNote p p = some true := by
 obtain ⟨s0, s1⟩ := h
 simp [F_laws_eqNote]
theorem sz_NoteS (L : List TNote) (hp : (OkL OkNote) L) (l : Int) (h0 : 0 ≤ l) (hl : l ≤ 1048576) : ∃ r, F_laws_szNoteS L l = some r ∧ (r ≤ l ∧ (0 ≤ r → (SmL SmNote) L)) := by
 obtain ⟨hL, hs⟩ := hp
 unfold F_laws_szNoteS
 rw [w64_id (by omega)]
 simp only [bif_dec]
 split
 ·exact ⟨_, rfl, by omega, by omega⟩
 ·exact ⟨_, rfl, by omega, fun _ => ⟨by omega, fun a _ => ⟨trivial, trivial⟩⟩⟩
theorem to_NoteS (L : List TNote) (h : (SmL CtNote) L) : F_laws_toNoteS L = some L := by
 have hL := h.1
 unfold F_laws_toNoteS
 rw [need_true (by omega)]
 have := loop_ex (body := F_laws_toNoteS_l0 L) (L := L) (s0 := (0, List.replicate ((L.length : Int)).toNat ((0, 0) : TNote))) (Q := fun r => r = L) (fun i s => s.1 = (i : Int) ∧ s.2.length = L.length ∧ s.2.take i = L.take i) (by omega) ⟨rfl, by simp, by simp⟩ ?_ ?_
 ·obtain ⟨r, h1, rfl⟩ := this; exact h1
 ·rintro i ⟨j, M⟩ k a ha hi ⟨rfl, h1, h2⟩ hk
  dsimp only at h1 h2
  have hl := get_lt ha
  obtain ⟨b, hb⟩ := get_some (L := M) (n := i) (by omega)
  simp only [F_laws_toNoteS_l0, int_lt hl, ix_get ha, ix_get hb, Option.bind_some, bif_t, w64_succ hi, Int.toNat_natCast, to_Note a (h.2 a (get_mem ha))]
  refine hk _ ⟨rfl, by simpa using h1, ?_⟩
  dsimp only
  rw [take_succ ha, take_succ (set_get hb), List.take_set_of_le (Nat.le_refl _), h2]
 ·rintro ⟨j, M⟩ k ⟨rfl, h1, h2⟩
  dsimp only at h1 h2
  simp only [F_laws_toNoteS_l0, int_lt_self, bif_f]
  rw [take_all (Nat.le_of_eq h1), take_all (Nat.le_refl _)] at h2
  exact ⟨_, rfl, h2⟩
theorem eq_NoteS (L : List TNote) (h : (SmL CtNote) L) : F_laws_eqNoteS L L = some true := by
 have hL := h.1
 unfold F_laws_eqNoteS
 simp only [ne_eq, not_true_eq_false, decide_false, bif_f]
 rw [loop_all (L := L) (fun _ => true) (by omega)]
 ·simp
 ·intro i k a ha hi
  simp only [F_laws_eqNoteS_l0, int_lt (get_lt ha), ix_get ha, w64_succ hi, Option.bind_some, bif_t, eq_Note a (h.2 a (get_mem ha)), Bool.not_true, bif_f]
 ·intro k; simp [F_laws_eqNoteS_l0]
noncomputable def OkRatio (p : TNote) : Prop := OkI p.1 ∧ OkI p.2
noncomputable def SmRatio (p : TNote) : Prop := (fun _ => True) p.1 ∧ (fun _ => True) p.2
noncomputable def CtRatio (p : TNote) : Prop := (fun _ => True) p.1 ∧ (fun _ => True) p.2
theorem ctsm_Ratio (p : TNote) (h : SmRatio p) : CtRatio p := by
 obtain ⟨h0, h1⟩ := h
 exact ⟨trivial, trivial⟩
theorem dec_Ratio (x : V) (h : Elem true [.int .i64, .int .i64] x) : ∃ p : TNote, x = eNote p ∧ OkRatio p := by
 obtain ⟨h1, h2⟩ := h
 have h1 : x = .agg x.cells := h1
 obtain ⟨v0, l0, hc, k0, v1, l1, rfl, k1, rfl⟩ := h2
 obtain ⟨a0, rfl, b0⟩ := dec_i64 k0
 obtain ⟨a1, rfl, b1⟩ := dec_i64 k1
 exact ⟨(a0, a1), by rw [h1, hc]; rfl, ⟨b0, b1⟩⟩
theorem to_Ratio (p : TNote) (h : CtRatio p) : F_laws_toRatio p = some p := by
 obtain ⟨s0, s1⟩ := h
 unfold F_laws_toRatio
 rfl
theorem eq_Ratio (p : TNote) (h : CtRatio p) : F_laws_eqRatio p p = some true := by
 obtain ⟨s0, s1⟩ := h
 simp [F_laws_eqRatio]
theorem sz_RatioS (L : List TNote) (hp : (OkL OkRatio) L) (l : Int) (h0 : 0 ≤ l) (hl : l ≤ 1048576) : ∃ r, F_laws_szRatioS L l = some r ∧ (r ≤ l ∧ (0 ≤ r → (SmL SmRatio) L)) := by
 obtain ⟨hL, hs⟩ := hp
 unfold F_laws_szRatioS
 rw [w64_id (by omega)]
 simp only [bif_dec]
 split
 ·exact ⟨_, rfl, by omega, by omega⟩
 ·exact ⟨_, rfl, by omega, fun _ => ⟨by omega, fun a _ => ⟨trivial, trivial⟩⟩⟩
theorem to_RatioS (L : List TNote) (h : (SmL CtRatio) L) : F_laws_toRatioS L = some L := by
 have hL := h.1
 unfold F_laws_toRatioS
 rw [need_true (by omega)]
 have := loop_ex (body := F_laws_toRatioS_l0 L) (L := L) (s0 := (0, List.replicate ((L.length : Int)).toNat ((0, 0) : TNote))) (Q := fun r => r = L) (fun i s => s.1 = (i : Int) ∧ s.2.length = L.length ∧ s.2.take i = L.take i) (by omega) ⟨rfl, by simp, by simp⟩ ?_ ?_
 ·obtain ⟨r, h1, rfl⟩ := this; exact h1
 ·rintro i ⟨j, M⟩ k a ha hi ⟨rfl, h1, h2⟩ hk
  dsimp only at h1 h2
  have hl := get_lt ha
  obtain ⟨b, hb⟩ := get_some (L := M) (n := i) (by omega)
  simp only [F_laws_toRatioS_l0, int_lt hl, ix_get ha, ix_get hb, Option.bind_some, bif_t, w64_succ hi, Int.toNat_natCast, to_Ratio a (h.2 a (get_mem ha))]
  refine hk _ ⟨rfl, by simpa using h1, ?_⟩
  dsimp only
  rw [take_succ ha, take_succ (set_get hb), List.take_set_of_le (Nat.le_refl _), h2]
 ·rintro ⟨j, M⟩ k ⟨rfl, h1, h2⟩
  dsimp only at h1 h2
  simp only [F_laws_toRatioS_l0, int_lt_self, bif_f]
  rw [take_all (Nat.le_of_eq h1), take_all (Nat.le_refl _)] at h2
  exact ⟨_, rfl, h2⟩
theorem eq_RatioS (L : List TNote) (h : (SmL CtRatio) L) : F_laws_eqRatioS L L = some true := by
 have hL := h.1
 unfold F_laws_eqRatioS
 simp only [ne_eq, not_true_eq_false, decide_false, bif_f]
 rw [loop_all (L := L) (fun _ => true) (by omega)]
 ·simp
 ·intro i k a ha hi
  simp only [F_laws_eqRatioS_l0, int_lt (get_lt ha), ix_get ha, w64_succ hi, Option.bind_some, bif_t, eq_Ratio a (h.2 a (get_mem ha)), Bool.not_true, bif_f]
 ·intro k; simp [F_laws_eqRatioS_l0]
noncomputable def OkTuning (p : TTuning) : Prop := OkS p.1 ∧ (OkL OkRatio) p.2
noncomputable def SmTuning (p : TTuning) : Prop := SmS p.1 ∧ (SmL SmRatio) p.2
noncomputable def CtTuning (p : TTuning) : Prop := (fun _ => True) p.1 ∧ (SmL CtRatio) p.2
theorem ctsm_Tuning (p : TTuning) (h : SmTuning p) : CtTuning p := by
 obtain ⟨h0, h1⟩ := h
 exact ⟨trivial, ⟨h1.1, fun a ha => (ctsm_Ratio a (h1.2 a ha))⟩⟩
theorem dec_Tuning (x : V) (h : Elem true [.str, .sl 2 true [.int .i64, .int .i64]] x) : ∃ p : TTuning, x = eTuning p ∧ OkTuning p := by
 obtain ⟨h1, h2⟩ := h
 have h1 : x = .agg x.cells := h1
 obtain ⟨v0, l0, hc, k0, v1, l1, rfl, k1, rfl⟩ := h2
 obtain ⟨a0, rfl, b0⟩ := dec_str k0
 obtain ⟨a1, rfl, b1⟩ := (dec_sl dec_Ratio) k1
 exact ⟨(a0, a1), by rw [h1, hc]; rfl, ⟨b0, b1⟩⟩
theorem sz_Tuning (p : TTuning) (hp : OkTuning p) (l : Int) (h0 : 0 ≤ l) (hl : l ≤ 1048576) : ∃ r, F_laws_szTuning p l = some r ∧ (r ≤ l ∧ (0 ≤ r → SmTuning p)) := by
 obtain ⟨o0, o1⟩ := hp
 unfold F_laws_szTuning
 have q0 : p.1.length ≤ 9223372036854775807 := o0
 rw [w64_id (by omega)]
 rw [bif_dec]
 split
 ·exact ⟨_, rfl, by omega, by omega⟩
 obtain ⟨r1, e1, m1, s1⟩ := sz_RatioS p.2 o1 (l - (p.1.length : Int)) (by omega) (by omega)
 rw [e1]
 rw [Option.bind_some, bif_dec]
 split
 ·exact ⟨_, rfl, by omega, by omega⟩
 exact ⟨_, rfl, by omega, fun _ => ⟨(by show (p.1.length : Int) ≤ 1048576; omega), (s1 (by omega))⟩⟩
theorem to_Tuning (p : TTuning) (h : CtTuning p) : F_laws_toTuning p = some p := by
 obtain ⟨s0, s1⟩ := h
 unfold F_laws_toTuning
 simp only [to_RatioS _ s1, Option.bind_some]
theorem eq_Tuning (p : TTuning) (h : CtTuning p) : F_laws_eqTuning p p = some true := by
 obtain ⟨s0, s1⟩ := h
 simp [F_laws_eqTuning, eq_RatioS _ s1]
noncomputable def OkSyllable (p : TSyllable) : Prop := OkS p.1 ∧ OkI p.2.1 ∧ OkI p.2.2
noncomputable def SmSyllable (p : TSyllable) : Prop := SmS p.1 ∧ (fun _ => True) p.2.1 ∧ (fun _ => True) p.2.2
noncomputable def CtSyllable (p : TSyllable) : Prop := (fun _ => True) p.1 ∧ (fun _ => True) p.2.1 ∧ (fun _ => True) p.2.2
theorem ctsm_Syllable (p : TSyllable) (h : SmSyllable p) : CtSyllable p := by
 obtain ⟨h0, h1, h2⟩ := h
 exact ⟨trivial, trivial, trivial⟩
theorem dec_Syllable (x : V) (h : Elem true [.str, .int .i64, .int .i64] x) : ∃ p : TSyllable, x = eSyllable p ∧ OkSyllable p := by
 obtain ⟨h1, h2⟩ := h
 have h1 : x = .agg x.cells := h1
 obtain ⟨v0, l0, hc, k0, v1, l1, rfl, k1, v2, l2, rfl, k2, rfl⟩ := h2
 obtain ⟨a0, rfl, b0⟩ := dec_str k0
 obtain ⟨a1, rfl, b1⟩ := dec_i64 k1
 obtain ⟨a2, rfl, b2⟩ := dec_i64 k2
 exact ⟨(a0, a1, a2), by rw [h1, hc]; rfl, ⟨b0, b1, b2⟩⟩
theorem sz_Syllable (p : TSyllable) (hp : OkSyllable p) (l : Int) (h0 : 0 ≤ l) (hl : l ≤ 1048576) : ∃ r, F_laws_szSyllable p l = some r ∧ (r ≤ l ∧ (0 ≤ r → SmSyllable p)) := by
 obtain ⟨o0, o1, o2⟩ := hp
 unfold F_laws_szSyllable
 have q0 : p.1.length ≤ 9223372036854775807 := o0
 rw [w64_id (by omega)]
 rw [bif_dec]
 split
 ·exact ⟨_, rfl, by omega, by omega⟩
 exact ⟨_, rfl, by omega, fun _ => ⟨(by show (p.1.length : Int) ≤ 1048576; omega), trivial, trivial⟩⟩
theorem to_Syllable (p : TSyllable) (h : CtSyllable p) : F_laws_toSyllable p = some p := by
 obtain ⟨s0, s1, s2⟩ := h
 unfold F_laws_toSyllable
 rfl
theorem eq_Syllable (p : TSyllable) (h : CtSyllable p) : F_laws_eqSyllable p p = some true := by
 obtain ⟨s0, s1, s2⟩ := h
 simp [F_laws_eqSyllable]
theorem sz_SyllableS (L : List TSyllable) (hp : (OkL OkSyllable) L) (l : Int) (h0 : 0 ≤ l) (hl : l ≤ 1048576) : ∃ r, F_laws_szSyllableS L l = some r ∧ (r ≤ l ∧ (0 ≤ r → (SmL SmSyllable) L)) := by
 obtain ⟨hL, hs⟩ := hp
 unfold F_laws_szSyllableS
 rw [w64_id (by omega)]
 simp only [bif_dec]
 split
 ·exact ⟨_, rfl, by omega, by omega⟩
 ·refine loop_ex (L := L) (fun i s => s.2 = (i : Int) ∧ 0 ≤ s.1 ∧ s.1 ≤ l - (L.length : Int) ∧ ∀ x ∈ L.take i, SmSyllable x) hL ⟨rfl, by omega, by simp, by simp⟩ ?_ ?_
  ·rintro i ⟨m, j⟩ k a ha hi ⟨rfl, h1, h2, h3⟩ hk
   dsimp only at h1 h2 h3
   have oa := hs a (get_mem ha)
   obtain ⟨r, q1, q2, q3⟩ := sz_Syllable a oa m h1 (by omega)
   simp only [F_laws_szSyllableS_l0, int_lt (get_lt ha), ix_get ha, Option.bind_some, bif_t, bif_dec, q1]
   split
   ·exact ⟨_, rfl, by omega, by omega⟩
   ·rw [w64_succ hi]
    refine hk _ ⟨rfl, by dsimp only; omega, by dsimp only; omega, ?_⟩
    intro x hx
    rw [take_succ ha] at hx
    rcases List.mem_append.1 hx with hx | hx
    ·exact h3 x hx
    ·rw [List.mem_singleton.1 hx]; exact (q3 (by omega))
  ·rintro ⟨m, j⟩ k ⟨rfl, h1, h2, h3⟩
   dsimp only at h1 h2 h3
   simp only [F_laws_szSyllableS_l0, int_lt_self, bif_f]
   rw [take_all (Nat.le_refl _)] at h3
   exact ⟨_, rfl, by omega, fun _ => ⟨by omega, h3⟩⟩
theorem to_SyllableS (L : List TSyllable) (h : (SmL CtSyllable) L) : F_laws_toSyllableS L = some L := by
 have hL := h.1
 unfold F_laws_toSyllableS
 rw [need_true (by omega)]
 have := loop_ex (body := F_laws_toSyllableS_l0 L) (L := L) (s0 := (0, List.replicate ((L.length : Int)).toNat (([], 0, 0) : TSyllable))) (Q := fun r => r = L) (fun i s => s.1 = (i : Int) ∧ s.2.length = L.length ∧ s.2.take i = L.take i) (by omega) ⟨rfl, by simp, by simp⟩ ?_ ?_
 ·obtain ⟨r, h1, rfl⟩ := this; exact h1
 ·rintro i ⟨j, M⟩ k a ha hi ⟨rfl, h1, h2⟩ hk
  dsimp only at h1 h2
  have hl := get_lt ha
  obtain ⟨b, hb⟩ := get_some (L := M) (n := i) (by omega)
  simp only [F_laws_toSyllableS_l0, int_lt hl, ix_get ha, ix_get hb, Option.bind_some, bif_t, w64_succ hi, Int.toNat_natCast, to_Syllable a (h.2 a (get_mem ha))]
  refine hk _ ⟨rfl, by simpa using h1, ?_⟩
  dsimp only
  rw [take_succ ha, take_succ (set_get hb), List.take_set_of_le (Nat.le_refl _), h2]
 ·rintro ⟨j, M⟩ k ⟨rfl, h1, h2⟩
  dsimp only at h1 h2
  simp only [F_laws_toSyllableS_l0, int_lt_self, bif_f]
  rw [take_all (Nat.le_of_eq h1), take_all (Nat.le_refl _)] at h2
  exact ⟨_, rfl, h2⟩
theorem eq_SyllableS (L : List TSyllable) (h : (SmL CtSyllable) L) : F_laws_eqSyllableS L L = some true := by
 have hL := h.1
 unfold F_laws_eqSyllableS
 simp only [ne_eq, not_true_eq_false, decide_false, bif_f]
 rw [loop_all (L := L) (fun _ => true) (by omega)]
 ·simp
 ·intro i k a ha hi
  simp only [F_laws_eqSyllableS_l0, int_lt (get_lt ha), ix_get ha, w64_succ hi, Option.bind_some, bif_t, eq_Syllable a (h.2 a (get_mem ha)), Bool.not_true, bif_f]
 ·intro k; simp [F_laws_eqSyllableS_l0]
noncomputable def OkTempoMark (p : TNote) : Prop := OkI p.1 ∧ OkI p.2
noncomputable def SmTempoMark (p : TNote) : Prop := (fun _ => True) p.1 ∧ (fun _ => True) p.2
noncomputable def CtTempoMark (p : TNote) : Prop := (fun _ => True) p.1 ∧ (fun _ => True) p.2
theorem ctsm_TempoMark (p : TNote) (h : SmTempoMark p) : CtTempoMark p := by
 obtain ⟨h0, h1⟩ := h
 exact ⟨trivial, trivial⟩
theorem dec_TempoMark (x : V) (h : Elem true [.int .i64, .int .i64] x) : ∃ p : TNote, x = eNote p ∧ OkTempoMark p := by
 obtain ⟨h1, h2⟩ := h
 have h1 : x = .agg x.cells := h1
 obtain ⟨v0, l0, hc, k0, v1, l1, rfl, k1, rfl⟩ := h2
 obtain ⟨a0, rfl, b0⟩ := dec_i64 k0
 obtain ⟨a1, rfl, b1⟩ := dec_i64 k1
 exact ⟨(a0, a1), by rw [h1, hc]; rfl, ⟨b0, b1⟩⟩
theorem to_TempoMark (p : TNote) (h : CtTempoMark p) : F_laws_toTempoMark p = some p := by
 obtain ⟨s0, s1⟩ := h
 unfold F_laws_toTempoMark
 rfl
theorem eq_TempoMark (p : TNote) (h : CtTempoMark p) : F_laws_eqTempoMark p p = some true := by
 obtain ⟨s0, s1⟩ := h
 simp [F_laws_eqTempoMark]
theorem sz_TempoMarkS (L : List TNote) (hp : (OkL OkTempoMark) L) (l : Int) (h0 : 0 ≤ l) (hl : l ≤ 1048576) : ∃ r, F_laws_szTempoMarkS L l = some r ∧ (r ≤ l ∧ (0 ≤ r → (SmL SmTempoMark) L)) := by
 obtain ⟨hL, hs⟩ := hp
 unfold F_laws_szTempoMarkS
 rw [w64_id (by omega)]
 simp only [bif_dec]
 split
 ·exact ⟨_, rfl, by omega, by omega⟩
 ·exact ⟨_, rfl, by omega, fun _ => ⟨by omega, fun a _ => ⟨trivial, trivial⟩⟩⟩
theorem to_TempoMarkS (L : List TNote) (h : (SmL CtTempoMark) L) : F_laws_toTempoMarkS L = some L := by
 have hL := h.1
 unfold F_laws_toTempoMarkS
 rw [need_true (by omega)]
 have := loop_ex (body := F_laws_toTempoMarkS_l0 L) (L := L) (s0 := (0, List.replicate ((L.length : Int)).toNat ((0, 0) : TNote))) (Q := fun r => r = L) (fun i s => s.1 = (i : Int) ∧ s.2.length = L.length ∧ s.2.take i = L.take i) (by omega) ⟨rfl, by simp, by simp⟩ ?_ ?_
 ·obtain ⟨r, h1, rfl⟩ := this; exact h1
 ·rintro i ⟨j, M⟩ k a ha hi ⟨rfl, h1, h2⟩ hk
  dsimp only at h1 h2
  have hl := get_lt ha
  obtain ⟨b, hb⟩ := get_some (L := M) (n := i) (by omega)
  simp only [F_laws_toTempoMarkS_l0, int_lt hl, ix_get ha, ix_get hb, Option.bind_some, bif_t, w64_succ hi, Int.toNat_natCast, to_TempoMark a (h.2 a (get_mem ha))]
  refine hk _ ⟨rfl, by simpa using h1, ?_⟩
  dsimp only
  rw [take_succ ha, take_succ (set_get hb), List.take_set_of_le (Nat.le_refl _), h2]
 ·rintro ⟨j, M⟩ k ⟨rfl, h1, h2⟩
  dsimp only at h1 h2
  simp only [F_laws_toTempoMarkS_l0, int_lt_self, bif_f]
  rw [take_all (Nat.le_of_eq h1), take_all (Nat.le_refl _)] at h2
  exact ⟨_, rfl, h2⟩
theorem eq_TempoMarkS (L : List TNote) (h : (SmL CtTempoMark) L) : F_laws_eqTempoMarkS L L = some true := by
 have hL := h.1
 unfold F_laws_eqTempoMarkS
 simp only [ne_eq, not_true_eq_false, decide_false, bif_f]
 rw [loop_all (L := L) (fun _ => true) (by omega)]
 ·simp
 ·intro i k a ha hi
  simp only [F_laws_eqTempoMarkS_l0, int_lt (get_lt ha), ix_get ha, w64_succ hi, Option.bind_some, bif_t, eq_TempoMark a (h.2 a (get_mem ha)), Bool.not_true, bif_f]
 ·intro k; simp [F_laws_eqTempoMarkS_l0]
noncomputable def OkItem (p : TItem) : Prop := OkS p.1 ∧ OkI p.2.1 ∧ OkI p.2.2.1 ∧ OkI p.2.2.2.1 ∧ OkI p.2.2.2.2.1 ∧ OkI p.2.2.2.2.2
noncomputable def SmItem (p : TItem) : Prop := SmS p.1 ∧ (fun _ => True) p.2.1 ∧ (fun _ => True) p.2.2.1 ∧ (fun _ => True) p.2.2.2.1 ∧ (fun _ => True) p.2.2.2.2.1 ∧ (fun _ => True) p.2.2.2.2.2
noncomputable def CtItem (p : TItem) : Prop := (fun _ => True) p.1 ∧ (fun _ => True) p.2.1 ∧ (fun _ => True) p.2.2.1 ∧ (fun _ => True) p.2.2.2.1 ∧ (fun _ => True) p.2.2.2.2.1 ∧ (fun _ => True) p.2.2.2.2.2
theorem ctsm_Item (p : TItem) (h : SmItem p) : CtItem p := by
 obtain ⟨h0, h1, h2, h3, h4, h5⟩ := h
 exact ⟨trivial, trivial, trivial, trivial, trivial, trivial⟩
theorem dec_Item (x : V) (h : Elem true [.str, .int .i64, .int .i64, .int .i64, .int .i64, .int .i64] x) : ∃ p : TItem, x = eItem p ∧ OkItem p := by
 obtain ⟨h1, h2⟩ := h
 have h1 : x = .agg x.cells := h1
 obtain ⟨v0, l0, hc, k0, v1, l1, rfl, k1, v2, l2, rfl, k2, v3, l3, rfl, k3, v4, l4, rfl, k4, v5, l5, rfl, k5, rfl⟩ := h2
 obtain ⟨a0, rfl, b0⟩ := dec_str k0
 obtain ⟨a1, rfl, b1⟩ := dec_i64 k1
 obtain ⟨a2, rfl, b2⟩ := dec_i64 k2
 obtain ⟨a3, rfl, b3⟩ := dec_i64 k3
 obtain ⟨a4, rfl, b4⟩ := dec_i64 k4
 obtain ⟨a5, rfl, b5⟩ := dec_i64 k5
 exact ⟨(a0, a1, a2, a3, a4, a5), by rw [h1, hc]; rfl, ⟨b0, b1, b2, b3, b4, b5⟩⟩
theorem sz_Item (p : TItem) (hp : OkItem p) (l : Int) (h0 : 0 ≤ l) (hl : l ≤ 1048576) : ∃ r, F_laws_szItem p l = some r ∧ (r ≤ l ∧ (0 ≤ r → SmItem p)) := by
 obtain ⟨o0, o1, o2, o3, o4, o5⟩ := hp
 unfold F_laws_szItem
 have q0 : p.1.length ≤ 9223372036854775807 := o0
 rw [w64_id (by omega)]
 rw [bif_dec]
 split
 ·exact ⟨_, rfl, by omega, by omega⟩
 exact ⟨_, rfl, by omega, fun _ => ⟨(by show (p.1.length : Int) ≤ 1048576; omega), trivial, trivial, trivial, trivial, trivial⟩⟩
theorem to_Item (p : TItem) (h : CtItem p) : F_laws_toItem p = some p := by
 obtain ⟨s0, s1, s2, s3, s4, s5⟩ := h
 unfold F_laws_toItem
 rfl
theorem eq_Item (p : TItem) (h : CtItem p) : F_laws_eqItem p p = some true := by
 obtain ⟨s0, s1, s2, s3, s4, s5⟩ := h
 simp [F_laws_eqItem]
theorem sz_ItemS (L : List TItem) (hp : (OkL OkItem) L) (l : Int) (h0 : 0 ≤ l) (hl : l ≤ 1048576) : ∃ r, F_laws_szItemS L l = some r ∧ (r ≤ l ∧ (0 ≤ r → (SmL SmItem) L)) := by
 obtain ⟨hL, hs⟩ := hp
 unfold F_laws_szItemS
 rw [w64_id (by omega)]
 simp only [bif_dec]
 split
 ·exact ⟨_, rfl, by omega, by omega⟩
 ·refine loop_ex (L := L) (fun i s => s.2 = (i : Int) ∧ 0 ≤ s.1 ∧ s.1 ≤ l - (L.length : Int) ∧ ∀ x ∈ L.take i, SmItem x) hL ⟨rfl, by omega, by simp, by simp⟩ ?_ ?_
  ·rintro i ⟨m, j⟩ k a ha hi ⟨rfl, h1, h2, h3⟩ hk
   dsimp only at h1 h2 h3
   have oa := hs a (get_mem ha)
   obtain ⟨r, q1, q2, q3⟩ := sz_Item a oa m h1 (by omega)
   simp only [F_laws_szItemS_l0, int_lt (get_lt ha), ix_get ha, Option.bind_some, bif_t, bif_dec, q1]
   split
   ·exact ⟨_, rfl, by omega, by omega⟩
   ·rw [w64_succ hi]
    refine hk _ ⟨rfl, by dsimp only; omega, by dsimp only; omega, ?_⟩
    intro x hx
    rw [take_succ ha] at hx
    rcases List.mem_append.1 hx with hx | hx
    ·exact h3 x hx
    ·rw [List.mem_singleton.1 hx]; exact (q3 (by omega))
  ·rintro ⟨m, j⟩ k ⟨rfl, h1, h2, h3⟩
   dsimp only at h1 h2 h3
   simp only [F_laws_szItemS_l0, int_lt_self, bif_f]
   rw [take_all (Nat.le_refl _)] at h3
   exact ⟨_, rfl, by omega, fun _ => ⟨by omega, h3⟩⟩
theorem to_ItemS (L : List TItem) (h : (SmL CtItem) L) : F_laws_toItemS L = some L := by
 have hL := h.1
 unfold F_laws_toItemS
 rw [need_true (by omega)]
 have := loop_ex (body := F_laws_toItemS_l0 L) (L := L) (s0 := (0, List.replicate ((L.length : Int)).toNat (([], 0, 0, 0, 0, 0) : TItem))) (Q := fun r => r = L) (fun i s => s.1 = (i : Int) ∧ s.2.length = L.length ∧ s.2.take i = L.take i) (by omega) ⟨rfl, by simp, by simp⟩ ?_ ?_
 ·obtain ⟨r, h1, rfl⟩ := this; exact h1
 ·rintro i ⟨j, M⟩ k a ha hi ⟨rfl, h1, h2⟩ hk
  dsimp only at h1 h2
  have hl := get_lt ha
  obtain ⟨b, hb⟩ := get_some (L := M) (n := i) (by omega)
  simp only [F_laws_toItemS_l0, int_lt hl, ix_get ha, ix_get hb, Option.bind_some, bif_t, w64_succ hi, Int.toNat_natCast, to_Item a (h.2 a (get_mem ha))]
  refine hk _ ⟨rfl, by simpa using h1, ?_⟩
  dsimp only
  rw [take_succ ha, take_succ (set_get hb), List.take_set_of_le (Nat.le_refl _), h2]
 ·rintro ⟨j, M⟩ k ⟨rfl, h1, h2⟩
  dsimp only at h1 h2
  simp only [F_laws_toItemS_l0, int_lt_self, bif_f]
  rw [take_all (Nat.le_of_eq h1), take_all (Nat.le_refl _)] at h2
  exact ⟨_, rfl, h2⟩
theorem eq_ItemS (L : List TItem) (h : (SmL CtItem) L) : F_laws_eqItemS L L = some true := by
 have hL := h.1
 unfold F_laws_eqItemS
 simp only [ne_eq, not_true_eq_false, decide_false, bif_f]
 rw [loop_all (L := L) (fun _ => true) (by omega)]
 ·simp
 ·intro i k a ha hi
  simp only [F_laws_eqItemS_l0, int_lt (get_lt ha), ix_get ha, w64_succ hi, Option.bind_some, bif_t, eq_Item a (h.2 a (get_mem ha)), Bool.not_true, bif_f]
 ·intro k; simp [F_laws_eqItemS_l0]
noncomputable def OkLesson (p : TLesson) : Prop := OkI p.1 ∧ OkS p.2.1 ∧ OkS p.2.2.1 ∧ OkI p.2.2.2.1 ∧ OkI p.2.2.2.2
noncomputable def SmLesson (p : TLesson) : Prop := (fun _ => True) p.1 ∧ SmS p.2.1 ∧ SmS p.2.2.1 ∧ (fun _ => True) p.2.2.2.1 ∧ (fun _ => True) p.2.2.2.2
noncomputable def CtLesson (p : TLesson) : Prop := (fun _ => True) p.1 ∧ (fun _ => True) p.2.1 ∧ (fun _ => True) p.2.2.1 ∧ (fun _ => True) p.2.2.2.1 ∧ (fun _ => True) p.2.2.2.2
theorem ctsm_Lesson (p : TLesson) (h : SmLesson p) : CtLesson p := by
 obtain ⟨h0, h1, h2, h3, h4⟩ := h
 exact ⟨trivial, trivial, trivial, trivial, trivial⟩
theorem dec_Lesson (x : V) (h : Elem true [.int .i64, .str, .str, .int .i64, .int .i64] x) : ∃ p : TLesson, x = eLesson p ∧ OkLesson p := by
 obtain ⟨h1, h2⟩ := h
 have h1 : x = .agg x.cells := h1
 obtain ⟨v0, l0, hc, k0, v1, l1, rfl, k1, v2, l2, rfl, k2, v3, l3, rfl, k3, v4, l4, rfl, k4, rfl⟩ := h2
 obtain ⟨a0, rfl, b0⟩ := dec_i64 k0
 obtain ⟨a1, rfl, b1⟩ := dec_str k1
 obtain ⟨a2, rfl, b2⟩ := dec_str k2
 obtain ⟨a3, rfl, b3⟩ := dec_i64 k3
 obtain ⟨a4, rfl, b4⟩ := dec_i64 k4
 exact ⟨(a0, a1, a2, a3, a4), by rw [h1, hc]; rfl, ⟨b0, b1, b2, b3, b4⟩⟩
theorem sz_Lesson (p : TLesson) (hp : OkLesson p) (l : Int) (h0 : 0 ≤ l) (hl : l ≤ 1048576) : ∃ r, F_laws_szLesson p l = some r ∧ (r ≤ l ∧ (0 ≤ r → SmLesson p)) := by
 obtain ⟨o0, o1, o2, o3, o4⟩ := hp
 unfold F_laws_szLesson
 have q1 : p.2.1.length ≤ 9223372036854775807 := o1
 rw [w64_id (by omega)]
 rw [bif_dec]
 split
 ·exact ⟨_, rfl, by omega, by omega⟩
 have q2 : p.2.2.1.length ≤ 9223372036854775807 := o2
 rw [w64_id (by omega)]
 rw [bif_dec]
 split
 ·exact ⟨_, rfl, by omega, by omega⟩
 exact ⟨_, rfl, by omega, fun _ => ⟨trivial, (by show (p.2.1.length : Int) ≤ 1048576; omega), (by show (p.2.2.1.length : Int) ≤ 1048576; omega), trivial, trivial⟩⟩
theorem to_Lesson (p : TLesson) (h : CtLesson p) : F_laws_toLesson p = some p := by
 obtain ⟨s0, s1, s2, s3, s4⟩ := h
 unfold F_laws_toLesson
 rfl
theorem eq_Lesson (p : TLesson) (h : CtLesson p) : F_laws_eqLesson p p = some true := by
 obtain ⟨s0, s1, s2, s3, s4⟩ := h
 simp [F_laws_eqLesson]
theorem sz_LessonS (L : List TLesson) (hp : (OkL OkLesson) L) (l : Int) (h0 : 0 ≤ l) (hl : l ≤ 1048576) : ∃ r, F_laws_szLessonS L l = some r ∧ (r ≤ l ∧ (0 ≤ r → (SmL SmLesson) L)) := by
 obtain ⟨hL, hs⟩ := hp
 unfold F_laws_szLessonS
 rw [w64_id (by omega)]
 simp only [bif_dec]
 split
 ·exact ⟨_, rfl, by omega, by omega⟩
 ·refine loop_ex (L := L) (fun i s => s.2 = (i : Int) ∧ 0 ≤ s.1 ∧ s.1 ≤ l - (L.length : Int) ∧ ∀ x ∈ L.take i, SmLesson x) hL ⟨rfl, by omega, by simp, by simp⟩ ?_ ?_
  ·rintro i ⟨m, j⟩ k a ha hi ⟨rfl, h1, h2, h3⟩ hk
   dsimp only at h1 h2 h3
   have oa := hs a (get_mem ha)
   obtain ⟨r, q1, q2, q3⟩ := sz_Lesson a oa m h1 (by omega)
   simp only [F_laws_szLessonS_l0, int_lt (get_lt ha), ix_get ha, Option.bind_some, bif_t, bif_dec, q1]
   split
   ·exact ⟨_, rfl, by omega, by omega⟩
   ·rw [w64_succ hi]
    refine hk _ ⟨rfl, by dsimp only; omega, by dsimp only; omega, ?_⟩
    intro x hx
    rw [take_succ ha] at hx
    rcases List.mem_append.1 hx with hx | hx
    ·exact h3 x hx
    ·rw [List.mem_singleton.1 hx]; exact (q3 (by omega))
  ·rintro ⟨m, j⟩ k ⟨rfl, h1, h2, h3⟩
   dsimp only at h1 h2 h3
   simp only [F_laws_szLessonS_l0, int_lt_self, bif_f]
   rw [take_all (Nat.le_refl _)] at h3
   exact ⟨_, rfl, by omega, fun _ => ⟨by omega, h3⟩⟩
theorem to_LessonS (L : List TLesson) (h : (SmL CtLesson) L) : F_laws_toLessonS L = some L := by
 have hL := h.1
 unfold F_laws_toLessonS
 rw [need_true (by omega)]
 have := loop_ex (body := F_laws_toLessonS_l0 L) (L := L) (s0 := (0, List.replicate ((L.length : Int)).toNat ((0, [], [], 0, 0) : TLesson))) (Q := fun r => r = L) (fun i s => s.1 = (i : Int) ∧ s.2.length = L.length ∧ s.2.take i = L.take i) (by omega) ⟨rfl, by simp, by simp⟩ ?_ ?_
 ·obtain ⟨r, h1, rfl⟩ := this; exact h1
 ·rintro i ⟨j, M⟩ k a ha hi ⟨rfl, h1, h2⟩ hk
  dsimp only at h1 h2
  have hl := get_lt ha
  obtain ⟨b, hb⟩ := get_some (L := M) (n := i) (by omega)
  simp only [F_laws_toLessonS_l0, int_lt hl, ix_get ha, ix_get hb, Option.bind_some, bif_t, w64_succ hi, Int.toNat_natCast, to_Lesson a (h.2 a (get_mem ha))]
  refine hk _ ⟨rfl, by simpa using h1, ?_⟩
  dsimp only
  rw [take_succ ha, take_succ (set_get hb), List.take_set_of_le (Nat.le_refl _), h2]
 ·rintro ⟨j, M⟩ k ⟨rfl, h1, h2⟩
  dsimp only at h1 h2
  simp only [F_laws_toLessonS_l0, int_lt_self, bif_f]
  rw [take_all (Nat.le_of_eq h1), take_all (Nat.le_refl _)] at h2
  exact ⟨_, rfl, h2⟩
theorem eq_LessonS (L : List TLesson) (h : (SmL CtLesson) L) : F_laws_eqLessonS L L = some true := by
 have hL := h.1
 unfold F_laws_eqLessonS
 simp only [ne_eq, not_true_eq_false, decide_false, bif_f]
 rw [loop_all (L := L) (fun _ => true) (by omega)]
 ·simp
 ·intro i k a ha hi
  simp only [F_laws_eqLessonS_l0, int_lt (get_lt ha), ix_get ha, w64_succ hi, Option.bind_some, bif_t, eq_Lesson a (h.2 a (get_mem ha)), Bool.not_true, bif_f]
 ·intro k; simp [F_laws_eqLessonS_l0]
theorem sz_StringS (L : List (List UInt8)) (hp : (OkL OkS) L) (l : Int) (h0 : 0 ≤ l) (hl : l ≤ 1048576) : ∃ r, F_laws_szStringS L l = some r ∧ (r ≤ l ∧ (0 ≤ r → (SmL SmS) L)) := by
 obtain ⟨hL, hs⟩ := hp
 unfold F_laws_szStringS
 rw [w64_id (by omega)]
 simp only [bif_dec]
 split
 ·exact ⟨_, rfl, by omega, by omega⟩
 ·refine loop_ex (L := L) (fun i s => s.2 = (i : Int) ∧ 0 ≤ s.1 ∧ s.1 ≤ l - (L.length : Int) ∧ ∀ x ∈ L.take i, SmS x) hL ⟨rfl, by omega, by simp, by simp⟩ ?_ ?_
  ·rintro i ⟨m, j⟩ k a ha hi ⟨rfl, h1, h2, h3⟩ hk
   dsimp only at h1 h2 h3
   have oa := hs a (get_mem ha)
   have oa : a.length ≤ 9223372036854775807 := oa
   simp only [F_laws_szStringS_l0, int_lt (get_lt ha), ix_get ha, Option.bind_some, bif_t, bif_dec]
   rw [w64_id (by omega)]
   split
   ·exact ⟨_, rfl, by omega, by omega⟩
   ·rw [w64_succ hi]
    refine hk _ ⟨rfl, by dsimp only; omega, by dsimp only; omega, ?_⟩
    intro x hx
    rw [take_succ ha] at hx
    rcases List.mem_append.1 hx with hx | hx
    ·exact h3 x hx
    ·rw [List.mem_singleton.1 hx]; exact (by show (a.length : Int) ≤ 1048576; omega)
  ·rintro ⟨m, j⟩ k ⟨rfl, h1, h2, h3⟩
   dsimp only at h1 h2 h3
   simp only [F_laws_szStringS_l0, int_lt_self, bif_f]
   rw [take_all (Nat.le_refl _)] at h3
   exact ⟨_, rfl, by omega, fun _ => ⟨by omega, h3⟩⟩
theorem to_StringS (L : List (List UInt8)) (h : (SmL (fun _ => True)) L) : F_laws_toStringS L = some L := by
 have hL := h.1
 unfold F_laws_toStringS
 rw [need_true (by omega)]
 have := loop_ex (body := F_laws_toStringS_l0 L) (L := L) (s0 := (0, List.replicate ((L.length : Int)).toNat ([] : List UInt8))) (Q := fun r => r = L) (fun i s => s.1 = (i : Int) ∧ s.2.length = L.length ∧ s.2.take i = L.take i) (by omega) ⟨rfl, by simp, by simp⟩ ?_ ?_
 ·obtain ⟨r, h1, rfl⟩ := this; exact h1
 ·rintro i ⟨j, M⟩ k a ha hi ⟨rfl, h1, h2⟩ hk
  dsimp only at h1 h2
  have hl := get_lt ha
  obtain ⟨b, hb⟩ := get_some (L := M) (n := i) (by omega)
  simp only [F_laws_toStringS_l0, int_lt hl, ix_get ha, ix_get hb, Option.bind_some, bif_t, w64_succ hi, Int.toNat_natCast]
  refine hk _ ⟨rfl, by simpa using h1, ?_⟩
  dsimp only
  rw [take_succ ha, take_succ (set_get hb), List.take_set_of_le (Nat.le_refl _), h2]
 ·rintro ⟨j, M⟩ k ⟨rfl, h1, h2⟩
  dsimp only at h1 h2
  simp only [F_laws_toStringS_l0, int_lt_self, bif_f]
  rw [take_all (Nat.le_of_eq h1), take_all (Nat.le_refl _)] at h2
  exact ⟨_, rfl, h2⟩
theorem eq_StringS (L : List (List UInt8)) (h : (SmL (fun _ => True)) L) : F_laws_eqStringS L L = some true := by
 have hL := h.1
 unfold F_laws_eqStringS
 simp only [ne_eq, not_true_eq_false, decide_false, bif_f]
 rw [loop_all (L := L) (fun _ => true) (by omega)]
 ·simp
 ·intro i k a ha hi
  simp only [F_laws_eqStringS_l0, int_lt (get_lt ha), ix_get ha, w64_succ hi, Option.bind_some, bif_t, ne_eq, not_true_eq_false, decide_false, bif_f]
 ·intro k; simp [F_laws_eqStringS_l0]
noncomputable def OkPerson (p : TPerson) : Prop := OkS p.1 ∧ OkI p.2.1 ∧ (OkL OkS) p.2.2
noncomputable def SmPerson (p : TPerson) : Prop := SmS p.1 ∧ (fun _ => True) p.2.1 ∧ (SmL SmS) p.2.2
noncomputable def CtPerson (p : TPerson) : Prop := (fun _ => True) p.1 ∧ (fun _ => True) p.2.1 ∧ (SmL (fun _ => True)) p.2.2
theorem ctsm_Person (p : TPerson) (h : SmPerson p) : CtPerson p := by
 obtain ⟨h0, h1, h2⟩ := h
 exact ⟨trivial, trivial, ⟨h2.1, fun a ha => trivial⟩⟩
theorem dec_Person (x : V) (h : Elem true [.str, .int .i64, .sl 1 false [.str]] x) : ∃ p : TPerson, x = ePerson p ∧ OkPerson p := by
 obtain ⟨h1, h2⟩ := h
 have h1 : x = .agg x.cells := h1
 obtain ⟨v0, l0, hc, k0, v1, l1, rfl, k1, v2, l2, rfl, k2, rfl⟩ := h2
 obtain ⟨a0, rfl, b0⟩ := dec_str k0
 obtain ⟨a1, rfl, b1⟩ := dec_i64 k1
 obtain ⟨a2, rfl, b2⟩ := (dec_sl (dec_one fun _ h => dec_str h)) k2
 exact ⟨(a0, a1, a2), by rw [h1, hc]; rfl, ⟨b0, b1, b2⟩⟩
theorem sz_Person (p : TPerson) (hp : OkPerson p) (l : Int) (h0 : 0 ≤ l) (hl : l ≤ 1048576) : ∃ r, F_laws_szPerson p l = some r ∧ (r ≤ l ∧ (0 ≤ r → SmPerson p)) := by
 obtain ⟨o0, o1, o2⟩ := hp
 unfold F_laws_szPerson
 have q0 : p.1.length ≤ 9223372036854775807 := o0
 rw [w64_id (by omega)]
 rw [bif_dec]
 split
 ·exact ⟨_, rfl, by omega, by omega⟩
 obtain ⟨r2, e2, m2, s2⟩ := sz_StringS p.2.2 o2 (l - (p.1.length : Int)) (by omega) (by omega)
 rw [e2]
 rw [Option.bind_some, bif_dec]
 split
 ·exact ⟨_, rfl, by omega, by omega⟩
 exact ⟨_, rfl, by omega, fun _ => ⟨(by show (p.1.length : Int) ≤ 1048576; omega), trivial, (s2 (by omega))⟩⟩
theorem to_Person (p : TPerson) (h : CtPerson p) : F_laws_toPerson p = some p := by
 obtain ⟨s0, s1, s2⟩ := h
 unfold F_laws_toPerson
 simp only [to_StringS _ s2, Option.bind_some]
theorem eq_Person (p : TPerson) (h : CtPerson p) : F_laws_eqPerson p p = some true := by
 obtain ⟨s0, s1, s2⟩ := h
 simp [F_laws_eqPerson, eq_StringS _ s2]
theorem sz_PersonS (L : List TPerson) (hp : (OkL OkPerson) L) (l : Int) (h0 : 0 ≤ l) (hl : l ≤ 1048576) : ∃ r, F_laws_szPersonS L l = some r ∧ (r ≤ l ∧ (0 ≤ r → (SmL SmPerson) L)) := by
 obtain ⟨hL, hs⟩ := hp
 unfold F_laws_szPersonS
 rw [w64_id (by omega)]
 simp only [bif_dec]
 split
 ·exact ⟨_, rfl, by omega, by omega⟩
 ·refine loop_ex (L := L) (fun i s => s.2 = (i : Int) ∧ 0 ≤ s.1 ∧ s.1 ≤ l - (L.length : Int) ∧ ∀ x ∈ L.take i, SmPerson x) hL ⟨rfl, by omega, by simp, by simp⟩ ?_ ?_
  ·rintro i ⟨m, j⟩ k a ha hi ⟨rfl, h1, h2, h3⟩ hk
   dsimp only at h1 h2 h3
   have oa := hs a (get_mem ha)
   obtain ⟨r, q1, q2, q3⟩ := sz_Person a oa m h1 (by omega)
   simp only [F_laws_szPersonS_l0, int_lt (get_lt ha), ix_get ha, Option.bind_some, bif_t, bif_dec, q1]
   split
   ·exact ⟨_, rfl, by omega, by omega⟩
   ·rw [w64_succ hi]
    refine hk _ ⟨rfl, by dsimp only; omega, by dsimp only; omega, ?_⟩
    intro x hx
    rw [take_succ ha] at hx
    rcases List.mem_append.1 hx with hx | hx
    ·exact h3 x hx
    ·rw [List.mem_singleton.1 hx]; exact (q3 (by omega))
  ·rintro ⟨m, j⟩ k ⟨rfl, h1, h2, h3⟩
   dsimp only at h1 h2 h3
   simp only [F_laws_szPersonS_l0, int_lt_self, bif_f]
   rw [take_all (Nat.le_refl _)] at h3
   exact ⟨_, rfl, by omega, fun _ => ⟨by omega, h3⟩⟩
theorem to_PersonS (L : List TPerson) (h : (SmL CtPerson) L) : F_laws_toPersonS L = some L := by
 have hL := h.1
 unfold F_laws_toPersonS
 rw [need_true (by omega)]
 have := loop_ex (body := F_laws_toPersonS_l0 L) (L := L) (s0 := (0, List.replicate ((L.length : Int)).toNat (([], 0, []) : TPerson))) (Q := fun r => r = L) (fun i s => s.1 = (i : Int) ∧ s.2.length = L.length ∧ s.2.take i = L.take i) (by omega) ⟨rfl, by simp, by simp⟩ ?_ ?_
 ·obtain ⟨r, h1, rfl⟩ := this; exact h1
 ·rintro i ⟨j, M⟩ k a ha hi ⟨rfl, h1, h2⟩ hk
  dsimp only at h1 h2
  have hl := get_lt ha
  obtain ⟨b, hb⟩ := get_some (L := M) (n := i) (by omega)
  simp only [F_laws_toPersonS_l0, int_lt hl, ix_get ha, ix_get hb, Option.bind_some, bif_t, w64_succ hi, Int.toNat_natCast, to_Person a (h.2 a (get_mem ha))]
  refine hk _ ⟨rfl, by simpa using h1, ?_⟩
  dsimp only
  rw [take_succ ha, take_succ (set_get hb), List.take_set_of_le (Nat.le_refl _), h2]
 ·rintro ⟨j, M⟩ k ⟨rfl, h1, h2⟩
  dsimp only at h1 h2
  simp only [F_laws_toPersonS_l0, int_lt_self, bif_f]
  rw [take_all (Nat.le_of_eq h1), take_all (Nat.le_refl _)] at h2
  exact ⟨_, rfl, h2⟩
theorem eq_PersonS (L : List TPerson) (h : (SmL CtPerson) L) : F_laws_eqPersonS L L = some true := by
 have hL := h.1
 unfold F_laws_eqPersonS
 simp only [ne_eq, not_true_eq_false, decide_false, bif_f]
 rw [loop_all (L := L) (fun _ => true) (by omega)]
 ·simp
 ·intro i k a ha hi
  simp only [F_laws_eqPersonS_l0, int_lt (get_lt ha), ix_get ha, w64_succ hi, Option.bind_some, bif_t, eq_Person a (h.2 a (get_mem ha)), Bool.not_true, bif_f]
 ·intro k; simp [F_laws_eqPersonS_l0]
noncomputable def OkDesk (p : TDesk) : Prop := OkRaga (p.1, p.2.1, p.2.2.1, p.2.2.2.1, p.2.2.2.2.1, p.2.2.2.2.2.1) ∧ (OkL OkNote) p.2.2.2.2.2.2.1 ∧ OkTuning (p.2.2.2.2.2.2.2.1, p.2.2.2.2.2.2.2.2.1) ∧ (OkL (OkL OkI)) p.2.2.2.2.2.2.2.2.2.1 ∧ (OkL OkSyllable) p.2.2.2.2.2.2.2.2.2.2.1 ∧ (OkL OkTempoMark) p.2.2.2.2.2.2.2.2.2.2.2.1 ∧ (OkL OkItem) p.2.2.2.2.2.2.2.2.2.2.2.2.1 ∧ (OkL OkLesson) p.2.2.2.2.2.2.2.2.2.2.2.2.2.1 ∧ (OkL OkPerson) p.2.2.2.2.2.2.2.2.2.2.2.2.2.2
noncomputable def SmDesk (p : TDesk) : Prop := SmRaga (p.1, p.2.1, p.2.2.1, p.2.2.2.1, p.2.2.2.2.1, p.2.2.2.2.2.1) ∧ (SmL SmNote) p.2.2.2.2.2.2.1 ∧ SmTuning (p.2.2.2.2.2.2.2.1, p.2.2.2.2.2.2.2.2.1) ∧ (SmL (SmL (fun _ => True))) p.2.2.2.2.2.2.2.2.2.1 ∧ (SmL SmSyllable) p.2.2.2.2.2.2.2.2.2.2.1 ∧ (SmL SmTempoMark) p.2.2.2.2.2.2.2.2.2.2.2.1 ∧ (SmL SmItem) p.2.2.2.2.2.2.2.2.2.2.2.2.1 ∧ (SmL SmLesson) p.2.2.2.2.2.2.2.2.2.2.2.2.2.1 ∧ (SmL SmPerson) p.2.2.2.2.2.2.2.2.2.2.2.2.2.2
noncomputable def CtDesk (p : TDesk) : Prop := CtRaga (p.1, p.2.1, p.2.2.1, p.2.2.2.1, p.2.2.2.2.1, p.2.2.2.2.2.1) ∧ (SmL CtNote) p.2.2.2.2.2.2.1 ∧ CtTuning (p.2.2.2.2.2.2.2.1, p.2.2.2.2.2.2.2.2.1) ∧ (SmL (SmL (fun _ => True))) p.2.2.2.2.2.2.2.2.2.1 ∧ (SmL CtSyllable) p.2.2.2.2.2.2.2.2.2.2.1 ∧ (SmL CtTempoMark) p.2.2.2.2.2.2.2.2.2.2.2.1 ∧ (SmL CtItem) p.2.2.2.2.2.2.2.2.2.2.2.2.1 ∧ (SmL CtLesson) p.2.2.2.2.2.2.2.2.2.2.2.2.2.1 ∧ (SmL CtPerson) p.2.2.2.2.2.2.2.2.2.2.2.2.2.2
theorem ctsm_Desk (p : TDesk) (h : SmDesk p) : CtDesk p := by
 obtain ⟨h0, h1, h2, h3, h4, h5, h6, h7, h8⟩ := h
 exact ⟨(ctsm_Raga (p.1, p.2.1, p.2.2.1, p.2.2.2.1, p.2.2.2.2.1, p.2.2.2.2.2.1) h0), ⟨h1.1, fun a ha => (ctsm_Note a (h1.2 a ha))⟩, (ctsm_Tuning (p.2.2.2.2.2.2.2.1, p.2.2.2.2.2.2.2.2.1) h2), ⟨h3.1, fun a ha => ⟨(h3.2 a ha).1, fun a ha => trivial⟩⟩, ⟨h4.1, fun a ha => (ctsm_Syllable a (h4.2 a ha))⟩, ⟨h5.1, fun a ha => (ctsm_TempoMark a (h5.2 a ha))⟩, ⟨h6.1, fun a ha => (ctsm_Item a (h6.2 a ha))⟩, ⟨h7.1, fun a ha => (ctsm_Lesson a (h7.2 a ha))⟩, ⟨h8.1, fun a ha => (ctsm_Person a (h8.2 a ha))⟩⟩
theorem dec_Desk (x : V) (h : Elem true [.str, .sl 1 false [.int .i64], .sl 1 false [.int .i64], .int .i64, .int .i64, .sl 1 false [.sl 1 false [.int .i64]], .sl 2 true [.int .i64, .int .i64], .str, .sl 2 true [.int .i64, .int .i64], .sl 1 false [.sl 1 false [.int .i64]], .sl 3 true [.str, .int .i64, .int .i64], .sl 2 true [.int .i64, .int .i64], .sl 6 true [.str, .int .i64, .int .i64, .int .i64, .int .i64, .int .i64], .sl 5 true [.int .i64, .str, .str, .int .i64, .int .i64], .sl 3 true [.str, .int .i64, .sl 1 false [.str]]] x) : ∃ p : TDesk, x = eDesk p ∧ OkDesk p := by
 obtain ⟨h1, h2⟩ := h
 have h1 : x = .agg x.cells := h1
 obtain ⟨v0, l0, hc, k0, v1, l1, rfl, k1, v2, l2, rfl, k2, v3, l3, rfl, k3, v4, l4, rfl, k4, v5, l5, rfl, k5, v6, l6, rfl, k6, v7, l7, rfl, k7, v8, l8, rfl, k8, v9, l9, rfl, k9, v10, l10, rfl, k10, v11, l11, rfl, k11, v12, l12, rfl, k12, v13, l13, rfl, k13, v14, l14, rfl, k14, rfl⟩ := h2
 obtain ⟨a0, rfl, b0⟩ := dec_str k0
 obtain ⟨a1, rfl, b1⟩ := (dec_sl (dec_one fun _ h => dec_i64 h)) k1
 obtain ⟨a2, rfl, b2⟩ := (dec_sl (dec_one fun _ h => dec_i64 h)) k2
 obtain ⟨a3, rfl, b3⟩ := dec_i64 k3
 obtain ⟨a4, rfl, b4⟩ := dec_i64 k4
 obtain ⟨a5, rfl, b5⟩ := (dec_sl (dec_one fun _ h => (dec_sl (dec_one fun _ h => dec_i64 h)) h)) k5
 obtain ⟨a6, rfl, b6⟩ := (dec_sl dec_Note) k6
 obtain ⟨a7, rfl, b7⟩ := dec_str k7
 obtain ⟨a8, rfl, b8⟩ := (dec_sl dec_Ratio) k8
 obtain ⟨a9, rfl, b9⟩ := (dec_sl (dec_one fun _ h => (dec_sl (dec_one fun _ h => dec_i64 h)) h)) k9
 obtain ⟨a10, rfl, b10⟩ := (dec_sl dec_Syllable) k10
 obtain ⟨a11, rfl, b11⟩ := (dec_sl dec_TempoMark) k11
 obtain ⟨a12, rfl, b12⟩ := (dec_sl dec_Item) k12
 obtain ⟨a13, rfl, b13⟩ := (dec_sl dec_Lesson) k13
 obtain ⟨a14, rfl, b14⟩ := (dec_sl dec_Person) k14
 exact ⟨(a0, a1, a2, a3, a4, a5, a6, a7, a8, a9, a10, a11, a12, a13, a14), by rw [h1, hc]; rfl, ⟨⟨b0, b1, b2, b3, b4, b5⟩, b6, ⟨b7, b8⟩, b9, b10, b11, b12, b13, b14⟩⟩
theorem sz_Desk (p : TDesk) (hp : OkDesk p) (l : Int) (h0 : 0 ≤ l) (hl : l ≤ 1048576) : ∃ r, F_laws_szDesk p l = some r ∧ (r ≤ l ∧ (0 ≤ r → SmDesk p)) := by
 obtain ⟨o0, o1, o2, o3, o4, o5, o6, o7, o8⟩ := hp
 unfold F_laws_szDesk
 obtain ⟨r0, e0, m0, s0⟩ := sz_Raga (p.1, p.2.1, p.2.2.1, p.2.2.2.1, p.2.2.2.2.1, p.2.2.2.2.2.1) o0 l (by omega) (by omega)
 rw [e0]
 rw [Option.bind_some, bif_dec]
 split
 ·exact ⟨_, rfl, by omega, by omega⟩
 obtain ⟨r1, e1, m1, s1⟩ := sz_NoteS p.2.2.2.2.2.2.1 o1 r0 (by omega) (by omega)
 rw [e1]
 rw [Option.bind_some, bif_dec]
 split
 ·exact ⟨_, rfl, by omega, by omega⟩
 obtain ⟨r2, e2, m2, s2⟩ := sz_Tuning (p.2.2.2.2.2.2.2.1, p.2.2.2.2.2.2.2.2.1) o2 r1 (by omega) (by omega)
 rw [e2]
 rw [Option.bind_some, bif_dec]
 split
 ·exact ⟨_, rfl, by omega, by omega⟩
 obtain ⟨r3, e3, m3, s3⟩ := sz_Int64SS p.2.2.2.2.2.2.2.2.2.1 o3 r2 (by omega) (by omega)
 rw [e3]
 rw [Option.bind_some, bif_dec]
 split
 ·exact ⟨_, rfl, by omega, by omega⟩
 obtain ⟨r4, e4, m4, s4⟩ := sz_SyllableS p.2.2.2.2.2.2.2.2.2.2.1 o4 r3 (by omega) (by omega)
 rw [e4]
 rw [Option.bind_some, bif_dec]
 split
 ·exact ⟨_, rfl, by omega, by omega⟩
 obtain ⟨r5, e5, m5, s5⟩ := sz_TempoMarkS p.2.2.2.2.2.2.2.2.2.2.2.1 o5 r4 (by omega) (by omega)
 rw [e5]
 rw [Option.bind_some, bif_dec]
 split
 ·exact ⟨_, rfl, by omega, by omega⟩
 obtain ⟨r6, e6, m6, s6⟩ := sz_ItemS p.2.2.2.2.2.2.2.2.2.2.2.2.1 o6 r5 (by omega) (by omega)
 rw [e6]
 rw [Option.bind_some, bif_dec]
 split
 ·exact ⟨_, rfl, by omega, by omega⟩
 obtain ⟨r7, e7, m7, s7⟩ := sz_LessonS p.2.2.2.2.2.2.2.2.2.2.2.2.2.1 o7 r6 (by omega) (by omega)
 rw [e7]
 rw [Option.bind_some, bif_dec]
 split
 ·exact ⟨_, rfl, by omega, by omega⟩
 obtain ⟨r8, e8, m8, s8⟩ := sz_PersonS p.2.2.2.2.2.2.2.2.2.2.2.2.2.2 o8 r7 (by omega) (by omega)
 rw [e8]
 rw [Option.bind_some, bif_dec]
 split
 ·exact ⟨_, rfl, by omega, by omega⟩
 exact ⟨_, rfl, by omega, fun _ => ⟨(s0 (by omega)), (s1 (by omega)), (s2 (by omega)), (s3 (by omega)), (s4 (by omega)), (s5 (by omega)), (s6 (by omega)), (s7 (by omega)), (s8 (by omega))⟩⟩
theorem to_Desk (p : TDesk) (h : CtDesk p) : F_laws_toDesk p = some p := by
 obtain ⟨s0, s1, s2, s3, s4, s5, s6, s7, s8⟩ := h
 unfold F_laws_toDesk
 simp only [to_Raga _ s0, to_NoteS _ s1, to_Tuning _ s2, to_Int64SS _ s3, to_SyllableS _ s4, to_TempoMarkS _ s5, to_ItemS _ s6, to_LessonS _ s7, to_PersonS _ s8, Option.bind_some]
theorem eq_Desk (p : TDesk) (h : CtDesk p) : F_laws_eqDesk p p = some true := by
 obtain ⟨s0, s1, s2, s3, s4, s5, s6, s7, s8⟩ := h
 simp [F_laws_eqDesk, eq_Raga _ s0, eq_NoteS _ s1, eq_Tuning _ s2, eq_Int64SS _ s3, eq_SyllableS _ s4, eq_TempoMarkS _ s5, eq_ItemS _ s6, eq_LessonS _ s7, eq_PersonS _ s8]
end Go.Ab
