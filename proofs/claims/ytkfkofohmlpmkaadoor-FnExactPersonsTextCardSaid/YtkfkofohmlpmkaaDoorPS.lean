/- The laws' helpers over plain data (own text, printed by sup.py). -/
import Derived.Test.YtkfkofohmlpmkaaDoorU0
import Derived.Test.YtkfkofohmlpmkaaDoorPM
set_option linter.unusedVariables false
set_option linter.unusedSimpArgs false
namespace Go.Ab
open Go.RowKit
def SmS (s : List UInt8) : Prop := (s.length : Int) ≤ 1048576
def SmL {α : Type} (P : α → Prop) (L : List α) : Prop := (L.length : Int) ≤ 1048576 ∧ ∀ a ∈ L, P a
theorem int_lt_set {α : Type} {L : List α} {i : Nat} {a : α} : (List.set L i a).length = L.length := List.length_set
theorem ix_set {α : Type} {L : List α} {i : Nat} {a : α} (h : i < L.length) : ix (L.set i a) (i : Int) = some a := by rw [ix_nat, List.getElem?_set_self h]
theorem sz_StringS (L : List (List UInt8)) (hp : (OkL OkS) L) (l : Int) (h0 : 0 ≤ l) (hl : l ≤ 1048576) : ∃ r, F_laws_szStringS L l = some r ∧ (r ≤ l ∧ (0 ≤ r → (SmL SmS) L)) := by
  obtain ⟨hL, hs⟩ := hp
  unfold F_laws_szStringS
  rw [w64_id (by omega)]
  simp only [bif_dec]
  split
  · exact ⟨_, rfl, by omega, by omega⟩
  · refine loop_ex (L := L) (fun i s => s.2 = (i : Int) ∧ 0 ≤ s.1 ∧ s.1 ≤ l - (L.length : Int) ∧ ∀ x ∈ L.take i, SmS x) hL ⟨rfl, by omega, by simp, by simp⟩ ?_ ?_
    · rintro i ⟨m, j⟩ k a ha hi ⟨rfl, h1, h2, h3⟩ hk
      dsimp only at h1 h2 h3
      have oa := hs a (get_mem ha)
      have oa : a.length ≤ 9223372036854775807 := oa
      simp only [F_laws_szStringS_l0, int_lt (get_lt ha), ix_get ha, Option.bind_some, bif_t, bif_dec]
      rw [w64_id (by omega)]
      split
      · exact ⟨_, rfl, by omega, by omega⟩
      · rw [w64_succ hi]
        refine hk _ ⟨rfl, by dsimp only; omega, by dsimp only; omega, ?_⟩
        intro x hx
        rw [take_succ ha] at hx
        rcases List.mem_append.1 hx with hx | hx
        · exact h3 x hx
        · rw [List.mem_singleton.1 hx]; exact (by show (a.length : Int) ≤ 1048576; omega)
    · rintro ⟨m, j⟩ k ⟨rfl, h1, h2, h3⟩
      dsimp only at h1 h2 h3
      simp only [F_laws_szStringS_l0, int_lt_self, bif_f]
      rw [take_all (Nat.le_refl _)] at h3
      exact ⟨_, rfl, by omega, fun _ => ⟨by omega, h3⟩⟩
theorem to_StringS (L : List (List UInt8)) (h : (SmL (fun _ => True)) L) : F_laws_toStringS L = some L := by
  have hL := h.1
  unfold F_laws_toStringS
  rw [need_true (by omega)]
  have := loop_ex (body := F_laws_toStringS_l0 L) (L := L) (s0 := (0, List.replicate ((L.length : Int)).toNat ([] : List UInt8))) (Q := fun r => r = L) (fun i s => s.1 = (i : Int) ∧ s.2.length = L.length ∧ s.2.take i = L.take i) (by omega) ⟨rfl, by simp, by simp⟩ ?_ ?_
  · obtain ⟨r, h1, rfl⟩ := this; exact h1
  · rintro i ⟨j, M⟩ k a ha hi ⟨rfl, h1, h2⟩ hk
    dsimp only at h1 h2
    have hl := get_lt ha
    obtain ⟨b, hb⟩ := get_some (L := M) (n := i) (by omega)
    simp only [F_laws_toStringS_l0, int_lt hl, ix_get ha, ix_get hb, Option.bind_some, bif_t, w64_succ hi, Int.toNat_natCast]
    refine hk _ ⟨rfl, by simpa using h1, ?_⟩
    dsimp only
    rw [take_succ ha, take_succ (set_get hb), List.take_set_of_le (Nat.le_refl _), h2]
  · rintro ⟨j, M⟩ k ⟨rfl, h1, h2⟩
    dsimp only at h1 h2
    simp only [F_laws_toStringS_l0, int_lt_self, bif_f]
    rw [take_all (Nat.le_of_eq h1), take_all (Nat.le_refl _)] at h2
    exact ⟨_, rfl, h2⟩
theorem eq_StringS (L : List (List UInt8)) (h : (SmL (fun _ => True)) L) : F_laws_eqStringS L L = some true := by
  have hL := h.1
  unfold F_laws_eqStringS
  simp only [ne_eq, not_true_eq_false, decide_false, bif_f]
  rw [loop_all (L := L) (fun _ => true) (by omega)]
  · simp
  · intro i k a ha hi
    simp only [F_laws_eqStringS_l0, int_lt (get_lt ha), ix_get ha, w64_succ hi, Option.bind_some, bif_t, ne_eq, not_true_eq_false, decide_false, bif_f]
  · intro k; simp [F_laws_eqStringS_l0]
noncomputable def OkPerson (p : TPerson) : Prop := OkS p.1 ∧ OkI p.2.1 ∧ (OkL OkS) p.2.2
noncomputable def SmPerson (p : TPerson) : Prop := SmS p.1 ∧ (fun _ => True) p.2.1 ∧ (SmL SmS) p.2.2
noncomputable def CtPerson (p : TPerson) : Prop := (fun _ => True) p.1 ∧ (fun _ => True) p.2.1 ∧ (SmL (fun _ => True)) p.2.2
theorem ctsm_Person (p : TPerson) (h : SmPerson p) : CtPerson p := by
  obtain ⟨h0, h1, h2⟩ := h
  exact ⟨trivial, trivial, ⟨h2.1, fun a ha => trivial⟩⟩
theorem dec_Person (x : V) (h : Elem true [.str, .int .i64, .sl 1 false [.str]] x) : ∃ p : TPerson, x = ePerson p ∧ OkPerson p := by
  obtain ⟨h1, h2⟩ := h
  have h1 : x = .agg x.cells := h1
  obtain ⟨v0, l0, hc, k0, v1, l1, rfl, k1, v2, l2, rfl, k2, rfl⟩ := h2
  obtain ⟨a0, rfl, b0⟩ := dec_str k0
  obtain ⟨a1, rfl, b1⟩ := dec_i64 k1
  obtain ⟨a2, rfl, b2⟩ := (dec_sl (dec_one fun _ h => dec_str h)) k2
  exact ⟨(a0, a1, a2), by rw [h1, hc]; rfl, ⟨b0, b1, b2⟩⟩
theorem sz_Person (p : TPerson) (hp : OkPerson p) (l : Int) (h0 : 0 ≤ l) (hl : l ≤ 1048576) : ∃ r, F_laws_szPerson p l = some r ∧ (r ≤ l ∧ (0 ≤ r → SmPerson p)) := by
  obtain ⟨o0, o1, o2⟩ := hp
  unfold F_laws_szPerson
  have q0 : p.1.length ≤ 9223372036854775807 := o0
  rw [w64_id (by omega)]
  rw [bif_dec]
  split
  · exact ⟨_, rfl, by omega, by omega⟩
  obtain ⟨r2, e2, m2, s2⟩ := sz_StringS p.2.2 o2 (l - (p.1.length : Int)) (by omega) (by omega)
  rw [e2]
  rw [Option.bind_some, bif_dec]
  split
  · exact ⟨_, rfl, by omega, by omega⟩
  exact ⟨_, rfl, by omega, fun _ => ⟨(by show (p.1.length : Int) ≤ 1048576; omega), trivial, (s2 (by omega))⟩⟩
theorem to_Person (p : TPerson) (h : CtPerson p) : F_laws_toPerson p = some p := by
  obtain ⟨s0, s1, s2⟩ := h
  unfold F_laws_toPerson
  simp only [to_StringS _ s2, Option.bind_some]
theorem eq_Person (p : TPerson) (h : CtPerson p) : F_laws_eqPerson p p = some true := by
  obtain ⟨s0, s1, s2⟩ := h
  simp [F_laws_eqPerson, eq_StringS _ s2]
theorem sz_PersonS (L : List TPerson) (hp : (OkL OkPerson) L) (l : Int) (h0 : 0 ≤ l) (hl : l ≤ 1048576) : ∃ r, F_laws_szPersonS L l = some r ∧ (r ≤ l ∧ (0 ≤ r → (SmL SmPerson) L)) := by
  obtain ⟨hL, hs⟩ := hp
  unfold F_laws_szPersonS
  rw [w64_id (by omega)]
  simp only [bif_dec]
  split
  · exact ⟨_, rfl, by omega, by omega⟩
  · refine loop_ex (L := L) (fun i s => s.2 = (i : Int) ∧ 0 ≤ s.1 ∧ s.1 ≤ l - (L.length : Int) ∧ ∀ x ∈ L.take i, SmPerson x) hL ⟨rfl, by omega, by simp, by simp⟩ ?_ ?_
    · rintro i ⟨m, j⟩ k a ha hi ⟨rfl, h1, h2, h3⟩ hk
      dsimp only at h1 h2 h3
      have oa := hs a (get_mem ha)
      obtain ⟨r, q1, q2, q3⟩ := sz_Person a oa m h1 (by omega)
      simp only [F_laws_szPersonS_l0, int_lt (get_lt ha), ix_get ha, Option.bind_some, bif_t, bif_dec, q1]
      split
      · exact ⟨_, rfl, by omega, by omega⟩
      · rw [w64_succ hi]
        refine hk _ ⟨rfl, by dsimp only; omega, by dsimp only; omega, ?_⟩
        intro x hx
        rw [take_succ ha] at hx
        rcases List.mem_append.1 hx with hx | hx
        · exact h3 x hx
        · rw [List.mem_singleton.1 hx]; exact (q3 (by omega))
    · rintro ⟨m, j⟩ k ⟨rfl, h1, h2, h3⟩
      dsimp only at h1 h2 h3
      simp only [F_laws_szPersonS_l0, int_lt_self, bif_f]
      rw [take_all (Nat.le_refl _)] at h3
      exact ⟨_, rfl, by omega, fun _ => ⟨by omega, h3⟩⟩
theorem to_PersonS (L : List TPerson) (h : (SmL CtPerson) L) : F_laws_toPersonS L = some L := by
  have hL := h.1
  unfold F_laws_toPersonS
  rw [need_true (by omega)]
  have := loop_ex (body := F_laws_toPersonS_l0 L) (L := L) (s0 := (0, List.replicate ((L.length : Int)).toNat (([], 0, []) : TPerson))) (Q := fun r => r = L) (fun i s => s.1 = (i : Int) ∧ s.2.length = L.length ∧ s.2.take i = L.take i) (by omega) ⟨rfl, by simp, by simp⟩ ?_ ?_
  · obtain ⟨r, h1, rfl⟩ := this; exact h1
  · rintro i ⟨j, M⟩ k a ha hi ⟨rfl, h1, h2⟩ hk
    dsimp only at h1 h2
    have hl := get_lt ha
    obtain ⟨b, hb⟩ := get_some (L := M) (n := i) (by omega)
    simp only [F_laws_toPersonS_l0, int_lt hl, ix_get ha, ix_get hb, Option.bind_some, bif_t, w64_succ hi, Int.toNat_natCast, to_Person a (h.2 a (get_mem ha))]
    refine hk _ ⟨rfl, by simpa using h1, ?_⟩
    dsimp only
    rw [take_succ ha, take_succ (set_get hb), List.take_set_of_le (Nat.le_refl _), h2]
  · rintro ⟨j, M⟩ k ⟨rfl, h1, h2⟩
    dsimp only at h1 h2
    simp only [F_laws_toPersonS_l0, int_lt_self, bif_f]
    rw [take_all (Nat.le_of_eq h1), take_all (Nat.le_refl _)] at h2
    exact ⟨_, rfl, h2⟩
theorem eq_PersonS (L : List TPerson) (h : (SmL CtPerson) L) : F_laws_eqPersonS L L = some true := by
  have hL := h.1
  unfold F_laws_eqPersonS
  simp only [ne_eq, not_true_eq_false, decide_false, bif_f]
  rw [loop_all (L := L) (fun _ => true) (by omega)]
  · simp
  · intro i k a ha hi
    simp only [F_laws_eqPersonS_l0, int_lt (get_lt ha), ix_get ha, w64_succ hi, Option.bind_some, bif_t, eq_Person a (h.2 a (get_mem ha)), Bool.not_true, bif_f]
  · intro k; simp [F_laws_eqPersonS_l0]
end Go.Ab
