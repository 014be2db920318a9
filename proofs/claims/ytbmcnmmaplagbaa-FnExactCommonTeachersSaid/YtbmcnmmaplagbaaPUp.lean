/- Teachers of teachers (own text). -/
import Derived.Test.YtbmcnmmaplagbaaPFlags
import Derived.Test.YtbmcnmmaplagbaaPAsk
set_option linter.unusedVariables false
set_option linter.unusedSimpArgs false
namespace Go.Ab
open Go.RowKit
/-- So many steps up from `n`. -/
def UpN (A : List TPerson) (n : List UInt8) : Nat → List UInt8 → Prop
  | 0, m => m = n
  | k + 1, t => ∃ q, q ∈ A ∧ UpN A n k q.1 ∧ t ∈ q.2.2
def Anc (A : List TPerson) (n t : List UInt8) : Prop := ∃ k, UpN A n (k + 1) t
noncomputable def anc (A : List TPerson) (n : List UInt8) (x : TPerson) : Bool := @decide (Anc A n x.1) (Classical.propDecidable _)
theorem anc_iff {A : List TPerson} {n : List UInt8} {x : TPerson} : anc A n x = true ↔ Anc A n x.1 := by unfold anc; exact @decide_eq_true_iff _ (Classical.propDecidable _)
theorem Anc.first {A : List TPerson} {n t : List UInt8} {q : TPerson} (hq : q ∈ A) (hn : q.1 = n) (ht : t ∈ q.2.2) : Anc A n t := ⟨0, q, hq, hn, ht⟩
theorem Anc.more {A : List TPerson} {n t : List UInt8} {q : TPerson} (hq : q ∈ A) (h : Anc A n q.1) (ht : t ∈ q.2.2) : Anc A n t := by
  obtain ⟨k, hk⟩ := h
  exact ⟨k + 1, q, hq, hk, ht⟩
theorem Anc.step {A : List TPerson} {n t : List UInt8} {q : TPerson} (hq : q ∈ A) (h : q.1 = n ∨ Anc A n q.1) (ht : t ∈ q.2.2) : Anc A n t := by
  rcases h with h | h
  · exact .first hq h ht
  · exact .more hq h ht
theorem Anc.at {A : List TPerson} (hV : VP A) {n t : List UInt8} (h : Anc A n t) : 0 ≤ atP A t := by
  obtain ⟨k, q, hq, _, ht⟩ := h
  obtain ⟨_, h, _⟩ := (hV.each q hq).tch t ht
  exact h
/-- One of a name. -/
theorem same_one {A : List TPerson} (hV : VP A) {p q : TPerson} (hp : p ∈ A) (hq : q ∈ A) (h : p.1 = q.1) : p = q := by
  obtain ⟨i, hi⟩ := List.mem_iff_getElem?.1 hp
  obtain ⟨j, hj⟩ := List.mem_iff_getElem?.1 hq
  have := same_name hV.srt hi hj h
  subst this
  rw [hi] at hj; exact Option.some.inj hj
def older (A : List TPerson) (b : Int) : Nat := A.countP fun p => decide (p.2.1 < b)
theorem older_lt {A : List TPerson} {q : TPerson} {b : Int} (hq : q ∈ A) (h : q.2.1 < b) : older A q.2.1 < older A b := by
  have key : ∀ (B : List TPerson), q ∈ B → older B q.2.1 < older B b := by
    intro B
    induction B with
    | nil => intro h; simp at h
    | cons p B ih =>
      intro hm
      have mono : older B q.2.1 ≤ older B b := List.countP_mono_left fun x _ hx => decide_eq_true (by have := of_decide_eq_true hx; omega)
      simp only [older, List.countP_cons, decide_eq_true_eq] at mono ⊢
      rcases List.mem_cons.1 hm with e | e
      · subst e
        rw [if_neg (by omega), if_pos h]; omega
      · have := ih e
        simp only [older] at this
        split
        · rw [if_pos (by omega)]; omega
        · split <;> omega
  exact key A hq
theorem older_self {A : List TPerson} {q : TPerson} (hq : q ∈ A) : older A q.2.1 < A.length := by
  have key : ∀ (B : List TPerson), q ∈ B → older B q.2.1 < B.length := by
    intro B
    induction B with
    | nil => intro h; simp at h
    | cons p B ih =>
      intro hm
      have : older B q.2.1 ≤ B.length := List.countP_le_length
      simp only [older, List.countP_cons, decide_eq_true_eq, List.length_cons] at this ⊢
      rcases List.mem_cons.1 hm with e | e
      · subst e
        rw [if_neg (by omega)]; omega
      · have := ih e
        simp only [older] at this
        split <;> omega
  exact key A hq
/-- No way up is longer than the list. -/
theorem up_lt {A : List TPerson} (hV : VP A) {n : List UInt8} : ∀ (k : Nat) (q : TPerson), q ∈ A → UpN A n k q.1 → older A q.2.1 + k < A.length
  | 0, q, hq, h => by have := older_self hq; omega
  | k + 1, q, hq, h => by
    obtain ⟨p, hp, hu, ht⟩ := h
    have h1 := up_lt hV k p hp hu
    obtain ⟨q2, h0, h2, h3⟩ := (hV.each p hp).tch _ ht
    have h4 : q2 ∈ A := ix_mem h2
    have h5 := same_one hV hq h4 (name_at h2).symm
    subst h5
    have := older_lt hq h3
    omega
/-- This name is marked. -/
def Has (A : List TPerson) (U : List Bool) (t : List UInt8) : Prop := U[(atP A t).toNat]? = some true
theorem has_set {A : List TPerson} {U : List Bool} {t s : List UInt8} (hU : U.length = A.length) (h : Has A U t) : Has A (U.set (atP A s).toNat true) t := by
  unfold Has at *
  by_cases e : (atP A s).toNat = (atP A t).toNat
  · rw [e, List.getElem?_set_self (get_lt h)]
  · rw [List.getElem?_set_ne e]; exact h
theorem has_new {A : List TPerson} {U : List Bool} {t : List UInt8} (hU : U.length = A.length) (h : 0 ≤ atP A t) : Has A (U.set (atP A t).toNat true) t := by
  unfold Has
  have := atP_lt A t
  rw [List.getElem?_set_self (by omega)]
/-- What is marked is above `n`. -/
def Snd (A : List TPerson) (n : List UInt8) (U : List Bool) : Prop := ∀ t, 0 ≤ atP A t → Has A U t → Anc A n t
theorem snd_set {A : List TPerson} {n : List UInt8} {U : List Bool} {t : List UInt8} (hS : Snd A n U) (h0 : 0 ≤ atP A t) (h : Anc A n t) : Snd A n (U.set (atP A t).toNat true) := by
  intro s hs hh
  by_cases e : (atP A t).toNat = (atP A s).toNat
  · obtain ⟨q, hq, _, hn⟩ := at_pos h0
    obtain ⟨q', hq', _, hn'⟩ := at_pos hs
    rw [← e, hq] at hq'
    cases hq'
    rw [← hn', hn]; exact h
  · unfold Has at hh
    rw [List.getElem?_set_ne e] at hh
    exact hS s hs hh
theorem ix_len {α : Type} {L : List α} {n : Int} (h0 : 0 ≤ n) (h : n < L.length) : ∃ v, ix L n = some v ∧ L[n.toNat]? = some v := by
  obtain ⟨v, hv⟩ := get_some (L := L) (n := n.toNat) (by omega)
  exact ⟨v, by unfold ix; rw [if_pos h0]; exact hv, hv⟩
theorem above_eq {A : List TPerson} (hA : OkPersons A) (hV : VP A) {n : List UInt8} (hn : 0 ≤ atP A n) : ∃ U, F_spec_l30Above A (atP A n) = some U ∧ Flags A U (anc A n) := by
  have hl := hV.len
  unfold F_spec_l30Above
  rw [need_true (by omega)]
  refine loop_ex (L := A) (fun r s => s.1 = (r : Int) ∧ s.2.length = A.length ∧ Snd A n s.2 ∧ ∀ k t, k + 1 ≤ r → UpN A n (k + 1) t → Has A s.2 t) hA.1 ⟨rfl, by simp, ?_, fun _ _ h => by omega⟩ ?_ ?_
  · intro t h0 h
    unfold Has at h
    rw [List.getElem?_replicate] at h
    split at h <;> cases h
  · rintro r ⟨_, U0⟩ K pr hpr hr ⟨rfl, hU0, hS0, hR0⟩ hK
    dsimp only at hU0 hS0 hR0
    simp only [F_spec_l30Above_l26, int_lt (get_lt hpr), bif_t]
    refine loop_ex (L := A) (fun i s => s.1 = (i : Int) ∧ s.2.length = A.length ∧ Snd A n s.2 ∧ (∀ t, Has A U0 t → Has A s.2 t) ∧ ∀ p ∈ A.take i, (p.1 = n ∨ Has A U0 p.1) → ∀ t ∈ p.2.2, Has A s.2 t) hA.1 ⟨rfl, hU0, hS0, fun _ h => h, by simp⟩ ?_ ?_
    · rintro i ⟨_, U1⟩ K1 p hp hi ⟨rfl, hU1, hS1, hM1, hC1⟩ hK1
      dsimp only at hU1 hS1 hM1 hC1
      have hpm := get_mem hp
      have hat := at_self hV hp
      have hself : (decide ((i : Int) = atP A n)) = decide (p.1 = n) := by
        by_cases e : p.1 = n
        · rw [decide_eq_true e, decide_eq_true (by rw [← e]; exact hat.symm)]
        · rw [decide_eq_false e, decide_eq_false (fun h => e ?_)]
          exact name_at (A := A) (by rw [← h]; exact ix_get hp)
      have hP := hV.each p hpm
      have hfew := hP.few
      have fin : ∀ U, U.length = A.length → Snd A n U → (∀ t, Has A U1 t → Has A U t) → ((p.1 = n ∨ Has A U0 p.1) → ∀ t ∈ p.2.2, Has A U t) → ∃ r, K1 (((i + 1 : Nat) : Int), U) = some r ∧ Flags A r (anc A n) := by
        intro U hU hS hM hC
        refine hK1 _ ⟨rfl, hU, hS, fun t h => hM t (hM1 t h), ?_⟩
        intro x hx hs t ht
        rw [take_succ hp] at hx
        rcases List.mem_append.1 hx with hx | hx
        · exact hM t (hC1 x hx hs t ht)
        · rw [List.mem_singleton.1 hx] at hs ht
          exact hC hs t ht
      simp only [F_spec_l30Above_l35, int_lt (get_lt hp), bif_t]
      refine loop_ex (L := p.2.2) (fun j s => s.1 = (j : Int) ∧ s.2.length = A.length ∧ Snd A n s.2 ∧ (∀ t, Has A U1 t → Has A s.2 t) ∧ ((p.1 = n ∨ Has A U0 p.1) → ∀ t ∈ p.2.2.take j, Has A s.2 t)) (by omega) ⟨rfl, hU1, hS1, fun _ h => h, by simp⟩ ?_ ?_
      · rintro j ⟨_, U2⟩ K2 t ht hj ⟨rfl, hU2, hS2, hM2, hC2⟩ hK2
        dsimp only at hU2 hS2 hM2 hC2
        obtain ⟨b, hb, hb'⟩ := ix_len (L := U2) (n := (i : Int)) (by omega) (by have := get_lt hp; omega)
        obtain ⟨q, h0, hq, hlt⟩ := hP.tch t (get_mem ht)
        have hatl := atP_lt A t
        obtain ⟨c, hc, _⟩ := ix_len (L := U2) (n := atP A t) h0 (by omega)
        have put : (p.1 = n ∨ Anc A n p.1) → ∃ r, F_spec_l30Above_j39 A (i : Int) (j : Int) U2 K2 = some r ∧ Flags A r (anc A n) := by
          intro hs
          simp only [F_spec_l30Above_j39, ix_get hp, ix_get ht, l30Find_eq A t hA.1, hc, Option.bind_some, w64_succ hj]
          have ha := Anc.step hpm hs (get_mem ht)
          refine hK2 _ ⟨rfl, by dsimp only; rw [List.length_set]; exact hU2, snd_set hS2 h0 ha, fun s h => has_set hU2 (hM2 s h), ?_⟩
          intro hs s hsm
          rw [take_succ ht] at hsm
          rcases List.mem_append.1 hsm with hsm | hsm
          · exact has_set hU2 (hC2 hs s hsm)
          · rw [List.mem_singleton.1 hsm]; exact has_new hU2 h0
        simp only [F_spec_l30Above_l38, ix_get hp, Option.bind_some, int_lt (get_lt ht), bif_t, hself, hb, w64_succ hi]
        rw [bif_dec]
        split
        · rename_i e; exact put (.inl e)
        · rename_i e
          cases hbv : b
          · rw [bif_f]
            refine fin U2 hU2 hS2 hM2 ?_
            rintro (h | h)
            · exact absurd h e
            · have := hM2 _ (hM1 _ h)
              unfold Has at this
              rw [hat, hb', hbv] at this; cases this
          · rw [bif_t]
            refine put (.inr (hS2 p.1 (by omega) ?_))
            unfold Has
            rw [hat, hb', hbv]
      · rintro ⟨_, U2⟩ K2 ⟨rfl, hU2, hS2, hM2, hC2⟩
        dsimp only at hU2 hS2 hM2 hC2
        rw [take_all (Nat.le_refl _)] at hC2
        simp only [F_spec_l30Above_l38, ix_get hp, Option.bind_some, int_lt_self, bif_f, w64_succ hi]
        exact fin U2 hU2 hS2 hM2 hC2
    · rintro ⟨_, U1⟩ K1 ⟨rfl, hU1, hS1, hM1, hC1⟩
      dsimp only at hU1 hS1 hM1 hC1
      rw [take_all (Nat.le_refl _)] at hC1
      simp only [F_spec_l30Above_l35, int_lt_self, bif_f, w64_succ hr]
      refine hK _ ⟨rfl, hU1, hS1, ?_⟩
      intro k t hk ⟨q, hq, hu, ht⟩
      refine hC1 q hq ?_ t ht
      cases k with
      | zero => exact .inl hu
      | succ k => exact .inr (hR0 k q.1 (by omega) hu)
  · rintro ⟨_, U⟩ K ⟨rfl, hU, hS, hR⟩
    dsimp only at hU hS hR
    refine ⟨U, by simp [F_spec_l30Above_l26], hU, ?_⟩
    intro k a ha
    have hat := at_self hV ha
    obtain ⟨b, hb⟩ := get_some (L := U) (n := k) (by rw [hU]; exact get_lt ha)
    rw [hb]
    congr 1
    have e : Has A U a.1 ↔ b = true := by
      unfold Has
      rw [hat, Int.toNat_natCast, hb]; simp
    have e2 : Anc A n a.1 ↔ Has A U a.1 := by
      constructor
      · rintro ⟨m, hm⟩
        have := up_lt hV (m + 1) a (get_mem ha) hm
        exact hR m a.1 (by omega) hm
      · exact hS a.1 (by omega)
    have e3 := anc_iff (A := A) (n := n) (x := a)
    cases b <;> cases h : anc A n a <;> simp_all
end Go.Ab
