/- Valid persons (own text). -/
import Derived.Test.YtcoeihkaikmdpaaPWithin
set_option linter.unusedVariables false
set_option linter.unusedSimpArgs false
namespace Go.Ab
open Go.RowKit

/-- Where the first person of this name stands. -/
def atP : List TPerson → List UInt8 → Int
  | [], _ => -1
  | p :: A, n => if p.1 = n then 0 else if atP A n < 0 then -1 else atP A n + 1
theorem atP_lt (A : List TPerson) (n : List UInt8) : -1 ≤ atP A n ∧ atP A n < A.length := by
  induction A with
  | nil => simp [atP]
  | cons p A ih =>
    simp only [atP, List.length_cons]
    split
    · omega
    · split <;> omega
/-- A search from each place on. -/
theorem atP_loop {A : List TPerson} {n : List UInt8} {body : (Int → Option Int) → Int → Option Int} (hA : A.length ≤ 9223372036854775807)
    (more : ∀ (i : Nat) k a, A[i]? = some a → i < 9223372036854775807 → body k (i : Int) = bif decide (a.1 = n) then some (i : Int) else k ((i + 1 : Nat) : Int))
    (done : ∀ k, body k (A.length : Int) = some (-1)) : loop body 0 = some (atP A n) := by
  have := loop_at (L := A) (body := body) (fun i => if atP (A.drop i) n < 0 then -1 else (i : Int) + atP (A.drop i) n) hA ?_ ?_
  · rw [this]
    simp only [List.drop_zero]
    have := atP_lt A n
    split <;> congr 1 <;> omega
  · intro i k a ha hi hk
    rw [more i k a ha hi, drop_cons ha]
    simp only [bif_dec, atP]
    split
    · simp
    · rw [hk]
      have := atP_lt (A.drop (i + 1)) n
      split <;> congr 1
      split <;> omega
  · intro k
    rw [done, List.drop_length]
    rfl
theorem l30Find_eq (A : List TPerson) (n : List UInt8) (hA : A.length ≤ 9223372036854775807) : F_spec_l30Find A n = some (atP A n) := by
  unfold F_spec_l30Find
  refine atP_loop hA ?_ ?_
  · intro i k a ha hi
    simp only [F_spec_l30Find_l0, int_lt (get_lt ha), ix_get ha, Option.bind_some, bif_t, w64_succ hi]
  · intro k; simp [F_spec_l30Find_l0]
theorem personAt_eq (A : List TPerson) (n : List UInt8) (hA : A.length ≤ 9223372036854775807) : F_impl_personAt A n = some (atP A n) := by
  unfold F_impl_personAt F_slices_IndexFunc_SPerson_Person
  rw [atP_loop hA]
  · rfl
  · intro i k a ha hi
    simp only [F_slices_IndexFunc_SPerson_Person_l0, F_impl_personAt_1, int_lt (get_lt ha), ix_get ha, Option.bind_some, bif_t, w64_succ hi]
  · intro k; simp [F_slices_IndexFunc_SPerson_Person_l0]

abbrev OkPersons (A : List TPerson) : Prop := OkL OkPerson A
theorem ix_mem {α : Type} {L : List α} {n : Int} {a : α} (h : ix L n = some a) : a ∈ L := List.mem_of_getElem? (ix_some h).2
/-- The inner loops are one. -/
theorem ok_inner {A : List TPerson} (hA : OkPersons A) (i : Int) (p : TPerson) (k : Int → Option Bool) : F_spec_l30Ok_l2 A i p k = F_impl_ValidPersons_l2 A i p k := by
  funext k1 j
  unfold F_spec_l30Ok_l2 F_impl_ValidPersons_l2
  cases h1 : ix p.2.2 j with
  | none => simp only [h1, Option.bind_none]
  | some n =>
    simp only [h1, Option.bind_some, l30Find_eq A n hA.1, personAt_eq A n hA.1, bytes_not]
theorem ok_round {A : List TPerson} (hA : OkPersons A) (h24 : A.length ≤ 24) (k : Int → Option Bool) (i : Int) : F_spec_l30Ok_l0 A k i = F_impl_ValidPersons_l0 A k i := by
  unfold F_spec_l30Ok_l0 F_impl_ValidPersons_l0
  rw [decide_eq_true (p := (A.length : Int) ≤ 24) (by omega)]
  cases h1 : ix A i with
  | none => simp only [h1, Option.bind_none]
  | some p =>
    simp only [h1, Option.bind_some, l01Name_eq p.1 (hA.2 p (ix_mem h1)).1, IsName_eq p.1 (hA.2 p (ix_mem h1)).1, l00In_eq, within_eq, bytes_not, F_spec_l30Ok_j1, F_impl_ValidPersons_j1, ok_inner hA]
/-- What the reference asks of a person, and of persons. -/
structure PP (A : List TPerson) (p : TPerson) : Prop where
  name : nameOk p.1 = true
  born : 0 ≤ p.2.1 ∧ p.2.1 ≤ 3000
  few : p.2.2.length ≤ 4
  tch : ∀ t ∈ p.2.2, ∃ q, 0 ≤ atP A t ∧ ix A (atP A t) = some q ∧ q.2.1 < p.2.1
  srt : ∀ (j : Nat) x y, p.2.2[j]? = some x → p.2.2[j + 1]? = some y → Op.bytesLess x y = true
structure VP (A : List TPerson) : Prop where
  len : A.length ≤ 24
  each : ∀ p ∈ A, PP A p
  srt : ∀ (j : Nat) x y, A[j]? = some x → A[j + 1]? = some y → Op.bytesLess x.1 y.1 = true
/-- The reference's answer is there, and tells this. -/
theorem l30Ok_vp {A : List TPerson} (hA : OkPersons A) : ∃ r, F_spec_l30Ok A = some r ∧ (r = true → VP A) := by
  unfold F_spec_l30Ok
  refine loop_ex (L := A) (fun i s => s = (i : Int) ∧ (∀ p ∈ A.take i, PP A p) ∧ ∀ (j : Nat) x y, j + 1 < i → A[j]? = some x → A[j + 1]? = some y → Op.bytesLess x.1 y.1 = true) hA.1 ⟨rfl, by simp, fun _ _ _ h => by omega⟩ ?_ ?_
  · rintro i _ k p hp hi ⟨rfl, hI, hS⟩ hk
    have ho := hA.2 p (get_mem hp)
    have hpl : p.2.2.length ≤ 9223372036854775807 := ho.2.2.1
    have inner : nameOk p.1 = true → (0 ≤ p.2.1 ∧ p.2.1 ≤ 3000) → p.2.2.length ≤ 4 → (∀ (j : Nat) x, j + 1 = i → A[j]? = some x → Op.bytesLess x.1 p.1 = true) → ∃ r, F_spec_l30Ok_j1 A (i : Int) p k = some r ∧ (r = true → VP A) := by
      intro hn hb hf hprev
      unfold F_spec_l30Ok_j1
      refine loop_ex (L := p.2.2) (fun j s => s = (j : Int) ∧ (∀ t ∈ p.2.2.take j, ∃ q, 0 ≤ atP A t ∧ ix A (atP A t) = some q ∧ q.2.1 < p.2.1) ∧ ∀ (m : Nat) x y, m + 1 < j → p.2.2[m]? = some x → p.2.2[m + 1]? = some y → Op.bytesLess x y = true) hpl ⟨rfl, by simp, fun _ _ _ h => by omega⟩ ?_ ?_
      · rintro j _ k1 n hn hj ⟨rfl, hJ, hT⟩ hk1
        have hat := atP_lt A n
        simp only [F_spec_l30Ok_l2, int_lt (get_lt hn), ix_get hn, Option.bind_some, bif_t, l30Find_eq A n hA.1, w64_succ hj, bif_dec]
        split
        · exact ⟨_, rfl, fun h => by cases h⟩
        · obtain ⟨q, hq⟩ := get_some (L := A) (n := (atP A n).toNat) (by omega)
          have e : ix A (atP A n) = some q := by unfold ix; rw [if_pos (by omega)]; exact hq
          simp only [e, Option.bind_some, bif_dec]
          split
          · exact ⟨_, rfl, fun h => by cases h⟩
          · have hJ' : ∀ t ∈ p.2.2.take (j + 1), ∃ q, 0 ≤ atP A t ∧ ix A (atP A t) = some q ∧ q.2.1 < p.2.1 := by
              intro t ht
              rw [take_succ hn] at ht
              rcases List.mem_append.1 ht with ht | ht
              · exact hJ t ht
              · rw [List.mem_singleton.1 ht]; exact ⟨q, by omega, e, by omega⟩
            split
            · rename_i h0
              obtain ⟨j', rfl⟩ : ∃ j', j = j' + 1 := ⟨j - 1, by omega⟩
              obtain ⟨m, hm⟩ := get_some (L := p.2.2) (n := j') (by have := get_lt hn; omega)
              rw [w64_pred (by omega), ix_get hm]
              simp only [Option.bind_some]
              cases hless : Op.bytesLess m n
              · exact ⟨_, rfl, fun h => by cases h⟩
              · refine hk1 _ ⟨rfl, hJ', ?_⟩
                intro a x y ha hx hy
                by_cases h2 : a + 1 = j' + 1
                · have : a = j' := by omega
                  subst this
                  rw [hm] at hx; rw [hn] at hy
                  simp only [Option.some.injEq] at hx hy
                  subst hx; subst hy; exact hless
                · exact hT a x y (by omega) hx hy
            · exact hk1 _ ⟨rfl, hJ', fun a x y ha hx hy => by omega⟩
      · rintro _ k1 ⟨rfl, hJ, hT⟩
        simp only [F_spec_l30Ok_l2, int_lt_self, bif_f, w64_succ hi]
        rw [take_all (Nat.le_refl _)] at hJ
        refine hk _ ⟨rfl, ?_, ?_⟩
        · intro x hx
          rw [take_succ hp] at hx
          rcases List.mem_append.1 hx with hx | hx
          · exact hI x hx
          · rw [List.mem_singleton.1 hx]
            exact ⟨hn, hb, hf, hJ, fun j x y hx hy => hT j x y (get_lt hy) hx hy⟩
        · intro j x y hj hx hy
          by_cases h2 : j + 1 = i
          · rw [h2, hp] at hy
            simp only [Option.some.injEq] at hy
            subst hy; exact hprev j x h2 hx
          · exact hS j x y (by omega) hx hy
    simp only [F_spec_l30Ok_l0, int_lt (get_lt hp), ix_get hp, Option.bind_some, bif_t, l01Name_eq p.1 ho.1, l00In_eq, bif_dec]
    cases hn : nameOk p.1
    · exact ⟨_, rfl, fun h => by cases h⟩
    simp only [Bool.not_true, bif_f, ← decide_not, bif_dec]
    split
    · exact ⟨_, rfl, fun h => by cases h⟩
    split
    · exact ⟨_, rfl, fun h => by cases h⟩
    split
    · obtain ⟨i', rfl⟩ : ∃ i', i = i' + 1 := ⟨i - 1, by omega⟩
      obtain ⟨m, hm⟩ := get_some (L := A) (n := i') (by have := get_lt hp; omega)
      rw [w64_pred (by omega), ix_get hm]
      simp only [Option.bind_some]
      cases hless : Op.bytesLess m.1 p.1
      · exact ⟨_, rfl, fun h => by cases h⟩
      · refine inner hn (by omega) (by omega) ?_
        intro j x hj hx
        have : j = i' := by omega
        subst this
        rw [hm] at hx
        simp only [Option.some.injEq] at hx
        subst hx; exact hless
    · exact inner hn (by omega) (by omega) (fun j x hj hx => by omega)
  · rintro _ k ⟨rfl, hI, hS⟩
    simp only [F_spec_l30Ok_l0, int_lt_self, bif_f]
    rw [take_all (Nat.le_refl _)] at hI
    exact ⟨_, rfl, fun h => ⟨by have := of_decide_eq_true h; omega, hI, fun j x y hx hy => hS j x y (get_lt hy) hx hy⟩⟩
/-- Too many persons are not valid. -/
theorem l30Ok_some {A : List TPerson} (hA : OkPersons A) : ∃ r, F_spec_l30Ok A = some r ∧ (24 < A.length → r = false) := by
  obtain ⟨r, h1, h2⟩ := l30Ok_vp hA
  refine ⟨r, h1, fun h => ?_⟩
  cases r
  · rfl
  · have := (h2 rfl).len; omega
theorem valid_eq {A : List TPerson} (hA : OkPersons A) : ∃ r, F_spec_l30Ok A = some r ∧ F_impl_ValidPersons A = some r ∧ (r = true → VP A) := by
  obtain ⟨r, h1, h3⟩ := l30Ok_vp hA
  obtain ⟨r', h1', h2⟩ := l30Ok_some hA
  rw [h1] at h1'
  simp only [Option.some.injEq] at h1'
  subst h1'
  refine ⟨r, h1, ?_, h3⟩
  unfold F_impl_ValidPersons
  rw [bif_dec]
  split
  · rw [h2 (by omega)]
  · rw [← h1]
    unfold F_spec_l30Ok
    have : F_spec_l30Ok_l0 A = F_impl_ValidPersons_l0 A := by funext k i; exact ok_round hA (by omega) k i
    rw [this]
end Go.Ab
