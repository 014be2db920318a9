/- Own texts, merged: PNames PWithin PPersons PAt PDig PDec PPt. -/
import Derived.Test.YtkfkofohmlpmkaaDoorPS
import Derived.Test.YtkfkofohmlpmkaaDoorPL
import Derived.Lib.ItoaNum
import Derived.Test.YtkfkofohmlpmkaaDoorGT
/- Names (own text). -/
set_option linter.unusedVariables false
set_option linter.unusedSimpArgs false
namespace Go.Ab
open Go.RowKit

/-- A byte of a name. -/
def nb (b : UInt8) : Bool := decide ((97 ≤ b.toNat ∧ b.toNat ≤ 122) ∨ (48 ≤ b.toNat ∧ b.toNat ≤ 57))
def lowHead : List UInt8 → Bool
  | [] => false
  | b :: _ => decide (97 ≤ b.toNat ∧ b.toNat ≤ 122)
/-- A name. -/
def nameOk (s : List UInt8) : Bool := decide (s.length ≤ 10) && (lowHead s && s.all nb)
theorem l01Small_eq (c : Int) : F_spec_l01Small c = some (decide (97 ≤ c ∧ c ≤ 122)) := by
  unfold F_spec_l01Small
  by_cases h : 97 ≤ c <;> simp [h]
theorem l01Digit_eq (c : Int) : F_spec_l01Digit c = some (decide (48 ≤ c ∧ c ≤ 57)) := by
  unfold F_spec_l01Digit
  by_cases h : 48 ≤ c <;> simp [h]
theorem l01Name_eq (s : List UInt8) (hs : s.length ≤ 9223372036854775807) : F_spec_l01Name s = some (nameOk s) := by
  unfold F_spec_l01Name
  cases s with
  | nil => rfl
  | cons b t =>
    have e : loop (F_spec_l01Name_l0 (b :: t)) 0 = some ((b :: t).all nb) := by
      refine loop_all nb hs ?_ ?_
      · intro i k a ha hi
        simp only [F_spec_l01Name_l0, int_lt (get_lt ha), ix_get ha, Option.bind_some, bif_t, l01Small_eq, l01Digit_eq, w64_succ hi, ← decide_not, bif_dec, nb]
        repeat' split
        all_goals first | rfl | (exfalso; omega)
      · intro k; simp [F_spec_l01Name_l0]
    rw [e]
    simp only [reduceCtorEq, decide_false, bif_f, ix_zero, Option.bind_some, l01Small_eq, ← decide_not, bif_dec, nameOk, lowHead]
    split
    · rename_i h; rw [decide_eq_false (by omega)]; rfl
    · rename_i h
      rw [decide_eq_true (by omega)]
      split
      · rename_i h2; rw [decide_eq_false (by omega)]; rfl
      · rename_i h2; rw [decide_eq_true (by omega)]; rfl
theorem onlyNameBytes_eq (s : List UInt8) (hs : s.length ≤ 9223372036854775807) : F_impl_onlyNameBytes s = some (s.all nb) := by
  unfold F_impl_onlyNameBytes
  refine loop_all nb hs ?_ ?_
  · intro i k a ha hi
    simp only [F_impl_onlyNameBytes_l0, int_lt (get_lt ha), ix_get ha, Option.bind_some, bif_t, w64_succ hi, bif_dec, nb]
    repeat' split
    all_goals first | rfl | (exfalso; omega)
  · intro k; simp [F_impl_onlyNameBytes_l0]
theorem IsName_eq (s : List UInt8) (hs : s.length ≤ 9223372036854775807) : F_impl_IsName s = some (nameOk s) := by
  unfold F_impl_IsName
  rw [onlyNameBytes_eq s hs]
  cases s with
  | nil => rfl
  | cons b t =>
    simp only [ix_zero, Option.bind_some, bif_dec, nameOk, lowHead]
    split
    · rename_i h; simp at h; omega
    · split
      · rename_i h; rw [decide_eq_false (by omega)]; rfl
      · rename_i h
        rw [decide_eq_true (by omega)]
        split
        · rename_i h2; rw [decide_eq_false (by omega)]; rfl
        · split
          · rename_i h2; rw [decide_eq_false (by omega)]; rfl
          · rw [decide_eq_true (by omega)]; rfl
end Go.Ab
/- Numbers within bounds (own text). -/
set_option linter.unusedVariables false
set_option linter.unusedSimpArgs false
namespace Go.Ab
open Go.RowKit
theorem l00In_eq (a b c : Int) : F_spec_l00In a b c = some (decide (b ≤ a ∧ a ≤ c)) := by
  unfold F_spec_l00In
  by_cases h : b ≤ a <;> simp [h]
theorem within_eq (a b c : Int) : F_impl_within a b c = some (decide (b ≤ a ∧ a ≤ c)) := by
  unfold F_impl_within
  by_cases h : b ≤ a <;> simp [h]
end Go.Ab
/- Valid persons (own text). -/
set_option linter.unusedVariables false
set_option linter.unusedSimpArgs false
namespace Go.Ab
open Go.RowKit

/-- Where the first person of this name stands. -/
def atP : List TPerson → List UInt8 → Int
  | [], _ => -1
  | p :: A, n => if p.1 = n then 0 else if atP A n < 0 then -1 else atP A n + 1
theorem atP_lt (A : List TPerson) (n : List UInt8) : -1 ≤ atP A n ∧ atP A n < A.length := by
  induction A with
  | nil => simp [atP]
  | cons p A ih =>
    simp only [atP, List.length_cons]
    split
    · omega
    · split <;> omega
/-- A search from each place on. -/
theorem atP_loop {A : List TPerson} {n : List UInt8} {body : (Int → Option Int) → Int → Option Int} (hA : A.length ≤ 9223372036854775807)
    (more : ∀ (i : Nat) k a, A[i]? = some a → i < 9223372036854775807 → body k (i : Int) = bif decide (a.1 = n) then some (i : Int) else k ((i + 1 : Nat) : Int))
    (done : ∀ k, body k (A.length : Int) = some (-1)) : loop body 0 = some (atP A n) := by
  have := loop_at (L := A) (body := body) (fun i => if atP (A.drop i) n < 0 then -1 else (i : Int) + atP (A.drop i) n) hA ?_ ?_
  · rw [this]
    simp only [List.drop_zero]
    have := atP_lt A n
    split <;> congr 1 <;> omega
  · intro i k a ha hi hk
    rw [more i k a ha hi, drop_cons ha]
    simp only [bif_dec, atP]
    split
    · simp
    · rw [hk]
      have := atP_lt (A.drop (i + 1)) n
      split <;> congr 1
      split <;> omega
  · intro k
    rw [done, List.drop_length]
    rfl
theorem l30Find_eq (A : List TPerson) (n : List UInt8) (hA : A.length ≤ 9223372036854775807) : F_spec_l30Find A n = some (atP A n) := by
  unfold F_spec_l30Find
  refine atP_loop hA ?_ ?_
  · intro i k a ha hi
    simp only [F_spec_l30Find_l0, int_lt (get_lt ha), ix_get ha, Option.bind_some, bif_t, w64_succ hi]
  · intro k; simp [F_spec_l30Find_l0]
theorem personAt_eq (A : List TPerson) (n : List UInt8) (hA : A.length ≤ 9223372036854775807) : F_impl_personAt A n = some (atP A n) := by
  unfold F_impl_personAt F_slices_IndexFunc_SPerson_Person
  rw [atP_loop hA]
  · rfl
  · intro i k a ha hi
    simp only [F_slices_IndexFunc_SPerson_Person_l0, F_impl_personAt_1, int_lt (get_lt ha), ix_get ha, Option.bind_some, bif_t, w64_succ hi]
  · intro k; simp [F_slices_IndexFunc_SPerson_Person_l0]

abbrev OkPersons (A : List TPerson) : Prop := OkL OkPerson A
theorem ix_mem {α : Type} {L : List α} {n : Int} {a : α} (h : ix L n = some a) : a ∈ L := List.mem_of_getElem? (ix_some h).2
/-- The inner loops are one. -/
theorem ok_inner {A : List TPerson} (hA : OkPersons A) (i : Int) (p : TPerson) (k : Int → Option Bool) : F_spec_l30Ok_l2 A p i k = F_impl_ValidPersons_l2 A p i k := by
  funext k1 j
  unfold F_spec_l30Ok_l2 F_impl_ValidPersons_l2
  cases h1 : ix p.2.2 j with
  | none => simp only [h1, Option.bind_none]
  | some n =>
    simp only [h1, Option.bind_some, l30Find_eq A n hA.1, personAt_eq A n hA.1, bytes_not]
theorem ok_round {A : List TPerson} (hA : OkPersons A) (h24 : A.length ≤ 24) (k : Int → Option Bool) (i : Int) : F_spec_l30Ok_l0 A k i = F_impl_ValidPersons_l0 A k i := by
  unfold F_spec_l30Ok_l0 F_impl_ValidPersons_l0
  rw [decide_eq_true (p := (A.length : Int) ≤ 24) (by omega)]
  cases h1 : ix A i with
  | none => simp only [h1, Option.bind_none]
  | some p =>
    simp only [h1, Option.bind_some, l01Name_eq p.1 (hA.2 p (ix_mem h1)).1, IsName_eq p.1 (hA.2 p (ix_mem h1)).1, l00In_eq, within_eq, bytes_not, F_spec_l30Ok_j1, F_impl_ValidPersons_j1, ok_inner hA]
/-- What the reference asks of a person, and of persons. -/
structure PP (A : List TPerson) (p : TPerson) : Prop where
  name : nameOk p.1 = true
  born : 0 ≤ p.2.1 ∧ p.2.1 ≤ 3000
  few : p.2.2.length ≤ 4
  tch : ∀ t ∈ p.2.2, ∃ q, 0 ≤ atP A t ∧ ix A (atP A t) = some q ∧ q.2.1 < p.2.1
  srt : ∀ (j : Nat) x y, p.2.2[j]? = some x → p.2.2[j + 1]? = some y → Op.bytesLess x y = true
structure VP (A : List TPerson) : Prop where
  len : A.length ≤ 24
  each : ∀ p ∈ A, PP A p
  srt : ∀ (j : Nat) x y, A[j]? = some x → A[j + 1]? = some y → Op.bytesLess x.1 y.1 = true
/-- The reference's answer is there, and tells this. -/
theorem l30Ok_vp {A : List TPerson} (hA : OkPersons A) : ∃ r, F_spec_l30Ok A = some r ∧ (r = true → VP A) := by
  unfold F_spec_l30Ok
  refine loop_ex (L := A) (fun i s => s = (i : Int) ∧ (∀ p ∈ A.take i, PP A p) ∧ ∀ (j : Nat) x y, j + 1 < i → A[j]? = some x → A[j + 1]? = some y → Op.bytesLess x.1 y.1 = true) hA.1 ⟨rfl, by simp, fun _ _ _ h => by omega⟩ ?_ ?_
  · rintro i _ k p hp hi ⟨rfl, hI, hS⟩ hk
    have ho := hA.2 p (get_mem hp)
    have hpl : p.2.2.length ≤ 9223372036854775807 := ho.2.2.1
    have inner : nameOk p.1 = true → (0 ≤ p.2.1 ∧ p.2.1 ≤ 3000) → p.2.2.length ≤ 4 → (∀ (j : Nat) x, j + 1 = i → A[j]? = some x → Op.bytesLess x.1 p.1 = true) → ∃ r, F_spec_l30Ok_j1 A p (i : Int) k = some r ∧ (r = true → VP A) := by
      intro hn hb hf hprev
      unfold F_spec_l30Ok_j1
      refine loop_ex (L := p.2.2) (fun j s => s = (j : Int) ∧ (∀ t ∈ p.2.2.take j, ∃ q, 0 ≤ atP A t ∧ ix A (atP A t) = some q ∧ q.2.1 < p.2.1) ∧ ∀ (m : Nat) x y, m + 1 < j → p.2.2[m]? = some x → p.2.2[m + 1]? = some y → Op.bytesLess x y = true) hpl ⟨rfl, by simp, fun _ _ _ h => by omega⟩ ?_ ?_
      · rintro j _ k1 n hn hj ⟨rfl, hJ, hT⟩ hk1
        have hat := atP_lt A n
        simp only [F_spec_l30Ok_l2, int_lt (get_lt hn), ix_get hn, Option.bind_some, bif_t, l30Find_eq A n hA.1, w64_succ hj, bif_dec]
        split
        · exact ⟨_, rfl, fun h => by cases h⟩
        · obtain ⟨q, hq⟩ := get_some (L := A) (n := (atP A n).toNat) (by omega)
          have e : ix A (atP A n) = some q := by unfold ix; rw [if_pos (by omega)]; exact hq
          simp only [e, Option.bind_some, bif_dec]
          split
          · exact ⟨_, rfl, fun h => by cases h⟩
          · have hJ' : ∀ t ∈ p.2.2.take (j + 1), ∃ q, 0 ≤ atP A t ∧ ix A (atP A t) = some q ∧ q.2.1 < p.2.1 := by
              intro t ht
              rw [take_succ hn] at ht
              rcases List.mem_append.1 ht with ht | ht
              · exact hJ t ht
              · rw [List.mem_singleton.1 ht]; exact ⟨q, by omega, e, by omega⟩
            split
            · rename_i h0
              obtain ⟨j', rfl⟩ : ∃ j', j = j' + 1 := ⟨j - 1, by omega⟩
              obtain ⟨m, hm⟩ := get_some (L := p.2.2) (n := j') (by have := get_lt hn; omega)
              rw [w64_pred (by omega), ix_get hm]
              simp only [Option.bind_some]
              cases hless : Op.bytesLess m n
              · exact ⟨_, rfl, fun h => by cases h⟩
              · refine hk1 _ ⟨rfl, hJ', ?_⟩
                intro a x y ha hx hy
                by_cases h2 : a + 1 = j' + 1
                · have : a = j' := by omega
                  subst this
                  rw [hm] at hx; rw [hn] at hy
                  simp only [Option.some.injEq] at hx hy
                  subst hx; subst hy; exact hless
                · exact hT a x y (by omega) hx hy
            · exact hk1 _ ⟨rfl, hJ', fun a x y ha hx hy => by omega⟩
      · rintro _ k1 ⟨rfl, hJ, hT⟩
        simp only [F_spec_l30Ok_l2, int_lt_self, bif_f, w64_succ hi]
        rw [take_all (Nat.le_refl _)] at hJ
        refine hk _ ⟨rfl, ?_, ?_⟩
        · intro x hx
          rw [take_succ hp] at hx
          rcases List.mem_append.1 hx with hx | hx
          · exact hI x hx
          · rw [List.mem_singleton.1 hx]
            exact ⟨hn, hb, hf, hJ, fun j x y hx hy => hT j x y (get_lt hy) hx hy⟩
        · intro j x y hj hx hy
          by_cases h2 : j + 1 = i
          · rw [h2, hp] at hy
            simp only [Option.some.injEq] at hy
            subst hy; exact hprev j x h2 hx
          · exact hS j x y (by omega) hx hy
    simp only [F_spec_l30Ok_l0, int_lt (get_lt hp), ix_get hp, Option.bind_some, bif_t, l01Name_eq p.1 ho.1, l00In_eq, bif_dec]
    cases hn : nameOk p.1
    · exact ⟨_, rfl, fun h => by cases h⟩
    simp only [Bool.not_true, bif_f, ← decide_not, bif_dec]
    split
    · exact ⟨_, rfl, fun h => by cases h⟩
    split
    · exact ⟨_, rfl, fun h => by cases h⟩
    split
    · obtain ⟨i', rfl⟩ : ∃ i', i = i' + 1 := ⟨i - 1, by omega⟩
      obtain ⟨m, hm⟩ := get_some (L := A) (n := i') (by have := get_lt hp; omega)
      rw [w64_pred (by omega), ix_get hm]
      simp only [Option.bind_some]
      cases hless : Op.bytesLess m.1 p.1
      · exact ⟨_, rfl, fun h => by cases h⟩
      · refine inner hn (by omega) (by omega) ?_
        intro j x hj hx
        have : j = i' := by omega
        subst this
        rw [hm] at hx
        simp only [Option.some.injEq] at hx
        subst hx; exact hless
    · exact inner hn (by omega) (by omega) (fun j x hj hx => by omega)
  · rintro _ k ⟨rfl, hI, hS⟩
    simp only [F_spec_l30Ok_l0, int_lt_self, bif_f]
    rw [take_all (Nat.le_refl _)] at hI
    exact ⟨_, rfl, fun h => ⟨by have := of_decide_eq_true h; omega, hI, fun j x y hx hy => hS j x y (get_lt hy) hx hy⟩⟩
/-- Too many persons are not valid. -/
theorem l30Ok_some {A : List TPerson} (hA : OkPersons A) : ∃ r, F_spec_l30Ok A = some r ∧ (24 < A.length → r = false) := by
  obtain ⟨r, h1, h2⟩ := l30Ok_vp hA
  refine ⟨r, h1, fun h => ?_⟩
  cases r
  · rfl
  · have := (h2 rfl).len; omega
theorem valid_eq {A : List TPerson} (hA : OkPersons A) : ∃ r, F_spec_l30Ok A = some r ∧ F_impl_ValidPersons A = some r ∧ (r = true → VP A) := by
  obtain ⟨r, h1, h3⟩ := l30Ok_vp hA
  obtain ⟨r', h1', h2⟩ := l30Ok_some hA
  rw [h1] at h1'
  simp only [Option.some.injEq] at h1'
  subst h1'
  refine ⟨r, h1, ?_, h3⟩
  unfold F_impl_ValidPersons
  rw [bif_dec]
  split
  · rw [h2 (by omega)]
  · rw [← h1]
    unfold F_spec_l30Ok
    have : F_spec_l30Ok_l0 A = F_impl_ValidPersons_l0 A := by funext k i; exact ok_round hA (by omega) k i
    rw [this]
end Go.Ab
/- Names of valid persons; names among names (own text). -/
set_option linter.unusedVariables false
set_option linter.unusedSimpArgs false
namespace Go.Ab
open Go.RowKit

theorem name_at : ∀ {A : List TPerson} {t : List UInt8} {q : TPerson}, ix A (atP A t) = some q → q.1 = t
  | [], t, q, h => by simp [atP, ix] at h
  | p :: A, t, q, h => by
    unfold atP at h
    by_cases h1 : p.1 = t
    · rw [if_pos h1] at h
      simp [ix] at h
      rw [← h]; exact h1
    · rw [if_neg h1] at h
      by_cases h2 : atP A t < 0
      · rw [if_pos h2] at h; simp [ix] at h
      · rw [if_neg h2] at h
        have h3 : (atP A t + 1).toNat = (atP A t).toNat + 1 := by omega
        simp only [ix, show (0 : Int) ≤ atP A t + 1 by omega, if_true, h3, List.getElem?_cons_succ] at h
        exact name_at (A := A) (t := t) (by unfold ix; rw [if_pos (by omega)]; exact h)
theorem at_pos {A : List TPerson} {t : List UInt8} (h : 0 ≤ atP A t) : ∃ q, A[(atP A t).toNat]? = some q ∧ ix A (atP A t) = some q ∧ q.1 = t := by
  have := atP_lt A t
  obtain ⟨q, hq⟩ := get_some (L := A) (n := (atP A t).toNat) (by omega)
  have h2 : ix A (atP A t) = some q := by unfold ix; rw [if_pos h]; exact hq
  exact ⟨q, hq, h2, name_at h2⟩
/-- Names stand in order: no two are alike. -/
theorem srt_lt {A : List TPerson} (hs : ∀ (j : Nat) x y, A[j]? = some x → A[j + 1]? = some y → Op.bytesLess x.1 y.1 = true) : ∀ (d i : Nat) x y, A[i]? = some x → A[i + d + 1]? = some y → Op.bytesLess x.1 y.1 = true
  | 0, i, x, y, hx, hy => hs i x y hx hy
  | d + 1, i, x, y, hx, hy => by
    obtain ⟨z, hz⟩ := get_some (L := A) (n := i + d + 1) (by have := get_lt hy; omega)
    exact bytes_trans (srt_lt hs d i x z hx hz) (hs _ z y hz hy)
theorem same_name {A : List TPerson} (hs : ∀ (j : Nat) x y, A[j]? = some x → A[j + 1]? = some y → Op.bytesLess x.1 y.1 = true) {i j : Nat} {x y : TPerson} (hx : A[i]? = some x) (hy : A[j]? = some y) (h : x.1 = y.1) : i = j := by
  rcases Nat.lt_trichotomy i j with h1 | h1 | h1
  · have := srt_lt hs (j - i - 1) i x y hx (by rw [show i + (j - i - 1) + 1 = j by omega]; exact hy)
    rw [h, bytes_irrefl] at this; cases this
  · exact h1
  · have := srt_lt hs (i - j - 1) j y x hy (by rw [show j + (i - j - 1) + 1 = i by omega]; exact hx)
    rw [h, bytes_irrefl] at this; cases this
theorem at_self {A : List TPerson} (hV : VP A) {i : Nat} {a : TPerson} (h : A[i]? = some a) : atP A a.1 = (i : Int) := by
  have h0 : 0 ≤ atP A a.1 := by
    have key : ∀ (A : List TPerson), a ∈ A → 0 ≤ atP A a.1 := by
      intro A
      induction A with
      | nil => intro h; simp at h
      | cons p A ih =>
        intro h
        simp only [atP]
        split
        · omega
        · rename_i hne
          rcases List.mem_cons.1 h with h | h
          · exact absurd (by rw [h]) hne
          · have := ih h
            rw [if_neg (by omega)]; omega
    exact key A (get_mem h)
  obtain ⟨q, hq, _, hn⟩ := at_pos h0
  have := same_name hV.srt hq h hn
  omega
/-- One of a name. -/
theorem same_one {A : List TPerson} (hV : VP A) {p q : TPerson} (hp : p ∈ A) (hq : q ∈ A) (h : p.1 = q.1) : p = q := by
  obtain ⟨i, hi⟩ := List.mem_iff_getElem?.1 hp
  obtain ⟨j, hj⟩ := List.mem_iff_getElem?.1 hq
  have := same_name hV.srt hi hj h
  subst this
  rw [hi] at hj; exact Option.some.inj hj
end Go.Ab
/- Digits (own text). -/
set_option linter.unusedVariables false
set_option linter.unusedSimpArgs false
namespace Go.Ab
open Go.RowKit
open Go.Lib (itoa decDigits)
theorem dig_len : ∀ (k u : Nat), u < 10 ^ (k + 1) → (decDigits u).length ≤ k + 1
  | 0, u, h => by rw [decDigits, dif_pos (by simpa using h)]; simp
  | k + 1, u, h => by
    rw [decDigits]
    split
    · simp
    · have := dig_len k (u / 10) (by rw [Nat.pow_succ] at h; omega)
      rw [List.length_append, List.length_singleton]; omega
/-- The digits, none for 0. -/
def dg0 (u : Nat) : List UInt8 := if u = 0 then [] else decDigits u
theorem dg0_step {u : Nat} (h : u ≠ 0) : dg0 u = dg0 (u / 10) ++ [UInt8.ofNat (48 + u % 10)] := by
  unfold dg0
  rw [if_neg h, decDigits]
  by_cases h1 : u < 10
  · rw [dif_pos h1, if_pos (by omega), Nat.mod_eq_of_lt h1]; rfl
  · rw [dif_neg h1, if_neg (by omega)]
end Go.Ab
/- The reference's numerals (own text). -/
set_option linter.unusedVariables false
set_option linter.unusedSimpArgs false
namespace Go.Ab
open Go.RowKit
open Go.Lib (itoa decDigits)
theorem rev_loop (L : List Int) (hL : L.length ≤ 1000) : F_spec_l01Dec_j2 L = some (bytesI L.reverse) := by
  unfold F_spec_l01Dec_j2
  have key : ∀ (m : Nat) (acc : List Int) (n : Nat), m ≤ L.length → m < n → acc = (L.drop m).reverse → iter (F_spec_l01Dec_l3 L) n ((m : Int) - 1, acc) = some (bytesI L.reverse) := by
    intro m
    induction m with
    | zero =>
      intro acc n _ hn ha
      obtain ⟨n, rfl⟩ : ∃ n', n = n' + 1 := ⟨n - 1, by omega⟩
      show F_spec_l01Dec_l3 L (iter (F_spec_l01Dec_l3 L) n) _ = _
      simp only [F_spec_l01Dec_l3]
      rw [decide_eq_false (by omega), bif_f, ha]
      rfl
    | succ m ih =>
      intro acc n hm hn ha
      obtain ⟨n, rfl⟩ : ∃ n', n = n' + 1 := ⟨n - 1, by omega⟩
      show F_spec_l01Dec_l3 L (iter (F_spec_l01Dec_l3 L) n) _ = _
      obtain ⟨x, hx⟩ := get_some (L := L) (n := m) (by omega)
      have e1 : ((m + 1 : Nat) : Int) - 1 = (m : Int) := by omega
      have hl : acc.length ≤ 1000 := by rw [ha]; simp; omega
      simp only [F_spec_l01Dec_l3, e1]
      rw [decide_eq_true (by omega), bif_t, ix_get hx, Option.bind_some, need_true (p := room (acc.length + [x].length) 1) (show room (acc.length + 1) 1 from ⟨by omega, by omega⟩), w64_id (by omega)]
      refine ih _ n (by omega) (by omega) ?_
      rw [ha, drop_cons hx]; simp
  have hw : w64 ((L.length : Int) - 1) = (L.length : Int) - 1 := w64_id (by omega)
  rw [hw]
  exact key L.length [] lim (Nat.le_refl _) (lt_lim (by omega)) (by simp)
theorem l01Dec_eq (n : Int) (h : -9223372036854775808 ≤ n ∧ n ≤ 9223372036854775807) : F_spec_l01Dec n = some (itoa n) := by
  unfold F_spec_l01Dec
  by_cases h0 : n = 0
  · subst h0; rw [decide_eq_true rfl, bif_t]; unfold itoa; rw [if_neg (by omega), decDigits, dif_pos (by decide)]; rfl
  rw [decide_eq_false h0, bif_f]
  suffices H : ∃ r, loop (F_spec_l01Dec_l0 n) (n, []) = some r ∧ r = itoa n by
    obtain ⟨r, e, hr⟩ := H
    rw [e, hr]
  refine loop_mu (fun s => (-9223372036854775808 ≤ s.1 ∧ s.1 ≤ 9223372036854775807) ∧ (s.1 ≠ 0 → (s.1 < 0 ↔ n < 0)) ∧ s.1.natAbs * 10 ^ s.2.length ≤ n.natAbs ∧ s.2.length ≤ 19 ∧ dg0 n.natAbs = dg0 s.1.natAbs ++ bytesI s.2.reverse)
    (fun s => s.1.natAbs) ⟨h, fun _ => Iff.rfl, by simp, by simp, by simp [bytesI]⟩ (by show n.natAbs < lim; unfold lim; omega) ?_
  rintro ⟨v, L⟩ k ⟨hv, hsg, hp, hl, hd⟩ hk
  dsimp only at hv hsg hp hl hd hk
  simp only [F_spec_l01Dec_l0]
  by_cases hz : v = 0
  · subst hz
    rw [decide_eq_false (by simp), bif_f]
    have hd' : decDigits n.natAbs = bytesI L.reverse := by
      have : dg0 n.natAbs = decDigits n.natAbs := if_neg (by omega)
      rw [← this, hd]; simp [dg0]
    by_cases hn : n < 0
    · rw [decide_eq_true hn, bif_t, need_true (p := room (L.length + [(45 : Int)].length) 1) (show room (L.length + 1) 1 from ⟨by omega, by omega⟩), rev_loop _ (by simp; omega)]
      refine ⟨_, rfl, ?_⟩
      unfold itoa
      rw [if_pos hn, hd']
      simp [bytesI]
    · rw [decide_eq_false hn, bif_f, rev_loop _ (by omega)]
      refine ⟨_, rfl, ?_⟩
      unfold itoa
      rw [if_neg hn, show n.toNat = n.natAbs by omega, hd']
  · rw [decide_eq_true hz, bif_t]
    obtain ⟨q1, q2⟩ : Int.tdiv v 10 = (if v < 0 then -((-v) / 10) else v / 10) ∧ Int.tmod v 10 = (if v < 0 then -((-v) % 10) else v % 10) := by
      split
      · rename_i hv
        obtain ⟨u, rfl⟩ : ∃ u : Int, v = -u := ⟨-v, by omega⟩
        rw [Int.neg_tdiv, Int.neg_tmod, Int.tdiv_eq_ediv_of_nonneg (by omega), Int.tmod_eq_emod_of_nonneg (by omega), Int.neg_neg]
        exact ⟨rfl, rfl⟩
      · rw [Int.tdiv_eq_ediv_of_nonneg (by omega), Int.tmod_eq_emod_of_nonneg (by omega)]
        exact ⟨rfl, rfl⟩
    have ht : w64 (Int.tdiv v 10) = Int.tdiv v 10 := w64_id (by omega)
    have htn : (Int.tdiv v 10).natAbs = v.natAbs / 10 := by omega
    have hl2 : L.length + 1 ≤ 19 := by
      by_cases h19 : L.length = 19
      · rw [h19] at hp
        have : 1 ≤ v.natAbs := by omega
        have h2 : 1 * 10 ^ 19 ≤ v.natAbs * 10 ^ 19 := Nat.mul_le_mul_right _ this
        have h3 : n.natAbs ≤ 9223372036854775808 := by omega
        omega
      · omega
    have key : ∀ d : Int, d = (v.natAbs % 10 : Nat) → ∃ r, F_spec_l01Dec_j1 v L k d = some r ∧ r = itoa n := by
      rintro d rfl
      unfold F_spec_l01Dec_j1
      have e1 : IntKind.wrap .u8 (w64 (48 + ((v.natAbs % 10 : Nat) : Int))) = ((48 + v.natAbs % 10 : Nat) : Int) := by
        rw [w64_id (by omega)]
        simp only [IntKind.wrap, IntKind.signed, IntKind.bits]
        have : ((48 + ((v.natAbs % 10 : Nat) : Int)) % 2 ^ 8) = 48 + ((v.natAbs % 10 : Nat) : Int) := Int.emod_eq_of_lt (by omega) (by omega)
        simp [this]
        try omega
      rw [e1, ht, need_true (p := room (L.length + [((48 + v.natAbs % 10 : Nat) : Int)].length) 1) (show room (L.length + 1) 1 from ⟨by omega, by omega⟩)]
      refine hk _ ⟨?_, ?_, ?_, ?_, ?_⟩ ?_
      · dsimp only; omega
      · dsimp only; intro hne; have := hsg hz; rw [← this]; omega
      · dsimp only
        rw [htn, List.length_append, List.length_singleton, Nat.pow_succ]
        refine Nat.le_trans ?_ hp
        rw [Nat.mul_comm (10 ^ L.length) 10, ← Nat.mul_assoc]
        exact Nat.mul_le_mul_right _ (Nat.div_mul_le_self _ _)
      · simp; omega
      · dsimp only
        rw [hd, htn, dg0_step (by omega : v.natAbs ≠ 0)]
        simp only [bytesI, List.reverse_append, List.reverse_singleton, List.singleton_append, List.map_cons, Int.toNat_natCast, List.append_assoc]
      · dsimp only; rw [htn]; omega
    have hm : (Int.tmod v 10).natAbs = v.natAbs % 10 := by omega
    by_cases hneg : Int.tmod v 10 < 0
    · rw [decide_eq_true hneg, bif_t]
      exact key _ (by rw [w64_id (by omega)]; omega)
    · rw [decide_eq_false hneg, bif_f]
      exact key _ (by omega)
end Go.Ab
/- PersonsText (own text). -/
set_option linter.unusedVariables false
set_option linter.unusedSimpArgs false
namespace Go.Ab
open Go.RowKit
open Go.Lib (itoa decDigits join)
theorem tail_len (m : Nat) (sep : List UInt8) : ∀ L : List (List UInt8), (∀ x ∈ L, x.length ≤ m) → (Go.Lib.joinTail sep L).length ≤ L.length * (m + sep.length)
  | [], _ => by simp [Go.Lib.joinTail]
  | x :: L, h => by
    have ih := tail_len m sep L (fun y hy => h y (by simp [hy]))
    have hx := h x (by simp)
    simp only [Go.Lib.joinTail, List.map_cons, List.flatten_cons, List.length_append, List.length_cons, Nat.add_mul, Nat.one_mul] at ih ⊢
    omega
theorem join_len (m : Nat) (sep : List UInt8) (L : List (List UInt8)) (h : ∀ x ∈ L, x.length ≤ m) : (join L sep).length ≤ (L.length + 1) * (m + sep.length) := by
  cases L with
  | nil => simp [Go.Lib.join_nil]
  | cons x L =>
    have hx := h x (by simp)
    have := tail_len m sep L (fun y hy => h y (by simp [hy]))
    rw [Go.Lib.join_cons, List.length_append, List.length_cons]
    have e : (L.length + 1 + 1) * (m + sep.length) = L.length * (m + sep.length) + (m + sep.length) + (m + sep.length) := by simp only [Nat.add_mul, Nat.one_mul]
    omega
theorem join_snoc {L : List (List UInt8)} (h : L ≠ []) (x sep : List UInt8) : join (L ++ [x]) sep = (join L sep ++ sep) ++ x := by
  cases L with
  | nil => exact absurd rfl h
  | cons y L => simp [Go.Lib.join_cons, Go.Lib.joinTail, List.append_assoc]
theorem Decimal_eq {n : Int} (h : -9223372036854775808 ≤ n ∧ n ≤ 9223372036854775807) : F_impl_Decimal n = some (itoa n) := by
  unfold F_impl_Decimal F_formatInt
  rw [need_true ⟨by decide, h.1, h.2⟩]; rfl
/-- A person as text. -/
def persT (p : TPerson) : List UInt8 := join ([p.1, itoa p.2.1] ++ p.2.2) [32]
/-- What stands in the bounds. -/
structure PB (p : TPerson) : Prop where
  name : p.1.length ≤ 10
  born : 0 ≤ p.2.1 ∧ p.2.1 ≤ 3000
  few : p.2.2.length ≤ 4
  each : ∀ t ∈ p.2.2, t.length ≤ 10
theorem name_len {s : List UInt8} (h : nameOk s = true) : s.length ≤ 10 := by
  unfold nameOk at h
  simp only [Bool.and_eq_true, decide_eq_true_eq] at h
  exact h.1
theorem born_len {n : Int} (h : 0 ≤ n ∧ n ≤ 3000) : (itoa n).length ≤ 4 := by
  unfold itoa
  rw [if_neg (by omega)]
  exact dig_len 3 _ (by omega)
theorem pers_len {p : TPerson} (h : PB p) : (persT p).length ≤ 77 := by
  have hb := born_len h.born
  have := join_len 10 [32] ([p.1, itoa p.2.1] ++ p.2.2) (by
    intro x hx
    rcases List.mem_append.1 hx with hx | hx
    · rcases List.mem_cons.1 hx with rfl | hx
      · exact h.name
      · rw [List.mem_singleton.1 hx]; omega
    · exact h.each x hx)
  have h3 : (([p.1, itoa p.2.1] ++ p.2.2).length + 1) * (10 + [(32 : UInt8)].length) ≤ 7 * 11 := Nat.mul_le_mul (by rw [List.length_append]; have := h.few; simp; omega) (by decide)
  unfold persT
  omega
theorem texts_len {A : List TPerson} (hl : A.length ≤ 24) (hA : ∀ p ∈ A, PB p) (n : Nat) : (join ((A.take n).map persT) [47]).length ≤ 2000 := by
  have := join_len 77 [47] ((A.take n).map persT) (by
    intro y hy
    obtain ⟨x, hx, rfl⟩ := List.mem_map.1 hy
    exact pers_len (hA x (List.mem_of_mem_take hx)))
  rw [List.length_map, List.length_take] at this
  have h3 : (min n A.length + 1) * (77 + [(47 : UInt8)].length) ≤ 25 * 78 := Nat.mul_le_mul (by omega) (by decide)
  omega
theorem persT_take (p : TPerson) (k : Nat) {t : List UInt8} (h : p.2.2[k]? = some t) : join ([p.1, itoa p.2.1] ++ p.2.2.take (k + 1)) [32] = join ([p.1, itoa p.2.1] ++ p.2.2.take k) [32] ++ ([32] ++ t) := by
  rw [take_succ h, ← List.append_assoc, join_snoc (by simp), List.append_assoc]
theorem l30Text_eq {A : List TPerson} (hl : A.length ≤ 24) (hA : ∀ p ∈ A, PB p) : F_spec_l30Text A = some (join (A.map persT) [47]) := by
  unfold F_spec_l30Text
  suffices H : ∃ r, loop (F_spec_l30Text_l0 A) ([], 0) = some r ∧ r = join (A.map persT) [47] by
    obtain ⟨r, e, hr⟩ := H
    rw [e, hr]
  refine loop_ex (L := A) (fun i st => st.2 = (i : Int) ∧ st.1 = join ((A.take i).map persT) [47]) (by omega) ⟨rfl, rfl⟩ ?_ ?_
  · rintro i ⟨out, j⟩ k p hp hi ⟨rfl, hout⟩ hk
    dsimp only at hout
    subst hout
    have hb := texts_len hl hA i
    have hP := hA p (get_mem hp)
    have hbl := born_len hP.born
    have hn := hP.name
    have hfew := hP.few
    have go : ∀ out : List UInt8, out.length ≤ 2001 → out ++ persT p = join ((A.take (i + 1)).map persT) [47] → ∃ r, F_spec_l30Text_j1 A (i : Int) k out = some r ∧ r = join (A.map persT) [47] := by
      intro out ho he
      unfold F_spec_l30Text_j1
      simp only [ix_get hp, Option.bind_some]
      rw [need_true (by simp; omega), l01Dec_eq _ (by have := hP.born; omega), Option.bind_some, need_true (by simp; omega), need_true (by simp; omega)]
      refine loop_mu (fun st => ∃ q : Nat, st.2 = (q : Int) ∧ q ≤ p.2.2.length ∧ st.1 = out ++ join ([p.1, itoa p.2.1] ++ p.2.2.take q) [32]) (fun st => ((p.2.2.length : Int) - st.2).toNat) ⟨0, rfl, by omega, ?_⟩ (by show ((p.2.2.length : Int) - 0).toNat < lim; unfold lim; omega) ?_
      · show out ++ ((p.1 ++ [32]) ++ itoa p.2.1) = _
        rw [List.take_zero, List.append_nil, Go.Lib.join_cons]
        simp [Go.Lib.joinTail]
      · rintro ⟨o2, j⟩ k2 ⟨q, h1, h2, h3⟩ hk2
        dsimp only at h1 h3 hk2
        subst h1 h3
        have hlen : (join ([p.1, itoa p.2.1] ++ p.2.2.take q) [32]).length ≤ 77 := by
          have := join_len 10 [32] ([p.1, itoa p.2.1] ++ p.2.2.take q) (by
            intro x hx
            rcases List.mem_append.1 hx with hx | hx
            · rcases List.mem_cons.1 hx with rfl | hx
              · exact hP.name
              · rw [List.mem_singleton.1 hx]; omega
            · exact hP.each x (List.mem_of_mem_take hx))
          have h3 : (([p.1, itoa p.2.1] ++ p.2.2.take q).length + 1) * (10 + [(32 : UInt8)].length) ≤ 7 * 11 := Nat.mul_le_mul (by rw [List.length_append, List.length_take]; simp; omega) (by decide)
          omega
        simp only [F_spec_l30Text_l2, ix_get hp, Option.bind_some]
        by_cases hq : q < p.2.2.length
        · obtain ⟨t, ht⟩ := get_some hq
          have htl := hP.each t (get_mem ht)
          rw [decide_eq_true (by omega), bif_t, ix_get ht, Option.bind_some, need_true (by rw [List.length_singleton]; omega), need_true (by rw [List.length_append, List.length_append, List.length_singleton]; omega), w64_succ (by omega)]
          exact hk2 _ ⟨q + 1, rfl, by omega, by dsimp only; rw [persT_take p q ht, List.append_assoc]⟩ (by dsimp only; omega)
        · have : q = p.2.2.length := by omega
          subst this
          rw [decide_eq_false (by omega), bif_f, w64_succ hi]
          refine hk _ ⟨rfl, ?_⟩
          dsimp only
          rw [take_all (Nat.le_refl _)]
          exact he
    simp only [F_spec_l30Text_l0, int_lt (get_lt hp), bif_t]
    by_cases hi0 : i = 0
    · subst hi0
      rw [show decide ((0 : Int) < ((0 : Nat) : Int)) = false from rfl, bif_f]
      refine go _ (by omega) ?_
      rw [take_succ hp]
      simp [Go.Lib.join_one, Go.Lib.join_nil]
    · rw [decide_eq_true (by omega), bif_t, need_true (by rw [List.length_singleton]; omega)]
      refine go _ (by rw [List.length_append, List.length_singleton]; omega) ?_
      rw [take_succ hp, List.map_append, List.map_singleton, join_snoc]
      intro e
      have h1 := congrArg List.length e
      rw [List.length_map, List.length_take, List.length_nil] at h1
      have h2 := get_lt hp
      omega
  · rintro ⟨out, j⟩ k ⟨rfl, hout⟩
    dsimp only at hout
    rw [take_all (Nat.le_refl _)] at hout
    simp only [F_spec_l30Text_l0, int_lt_self, bif_f]
    exact ⟨_, rfl, hout⟩
theorem pb_of {A : List TPerson} (hV : VP A) : ∀ p ∈ A, PB p := by
  intro p hp
  have h := hV.each p hp
  refine ⟨name_len h.name, h.born, h.few, ?_⟩
  intro t ht
  obtain ⟨q, h0, hq, _⟩ := h.tch t ht
  have he := name_at hq
  have hqA : q ∈ A := ix_mem hq
  rw [← he]
  exact name_len (hV.each q hqA).name
theorem iPT_eq {A : List TPerson} (hl : A.length ≤ 24) (hA : ∀ p ∈ A, PB p) : loop (F_impl_PersonsText_l0 A) (0, []) = some (join (A.map persT) [47]) := by
  suffices H : ∃ r, loop (F_impl_PersonsText_l0 A) (0, []) = some r ∧ r = join (A.map persT) [47] by
    obtain ⟨r, e, hr⟩ := H
    rw [e, hr]
  refine loop_ex (L := A) (fun i st => st.1 = (i : Int) ∧ st.2 = (A.take i).map persT) (by omega) ⟨rfl, rfl⟩ ?_ ?_
  · rintro i ⟨j, out⟩ k p hp hi ⟨rfl, hout⟩ hk
    dsimp only at hout
    subst hout
    have hP := hA p (get_mem hp)
    have hpl := pers_len hP
    have hfew := hP.few
    simp only [F_impl_PersonsText_l0, int_lt (get_lt hp), ix_get hp, Option.bind_some, bif_t, w64_succ hi, Decimal_eq (show -9223372036854775808 ≤ p.2.1 ∧ p.2.1 ≤ 9223372036854775807 by have := hP.born; omega)]
    rw [need_true (p := room ([p.1, itoa p.2.1].length + p.2.2.length) 16) (show room (2 + p.2.2.length) 16 from ⟨by omega, by omega⟩)]
    have hj : F_join ([p.1, itoa p.2.1] ++ p.2.2) [32] = some (persT p) := by
      unfold F_join
      exact need_true ⟨by rw [List.length_append]; simp; omega, by show (persT p).length ≤ _; omega⟩
    rw [hj, Option.bind_some, need_true (p := room (((A.take i).map persT).length + [persT p].length) 16) (show room (((A.take i).map persT).length + 1) 16 by rw [List.length_map, List.length_take]; exact ⟨by omega, by omega⟩)]
    exact hk _ ⟨rfl, by dsimp only; rw [take_succ hp, List.map_append]; rfl⟩
  · rintro ⟨j, out⟩ k ⟨rfl, hout⟩
    dsimp only at hout
    rw [take_all (Nat.le_refl _)] at hout
    subst hout
    simp only [F_impl_PersonsText_l0, int_lt_self, bif_f]
    have := texts_len hl hA A.length
    rw [take_all (Nat.le_refl _)] at this
    unfold F_join
    rw [need_true ⟨by rw [List.length_map]; omega, by omega⟩]
    exact ⟨_, rfl, rfl⟩
theorem core_PersonsText (a0 : List TPerson) (o0 : (OkL OkPerson) a0) (s0 : (SmL SmPerson) a0) : ∃ w, F_spec_PersonsText a0 = some w ∧ F_impl_PersonsText a0 = some w ∧ True := by
  obtain ⟨r, h1, h2, h3⟩ := valid_eq o0
  unfold F_spec_PersonsText F_impl_PersonsText
  rw [h1, h2, Option.bind_some, Option.bind_some]
  cases r
  · exact ⟨_, rfl, rfl, trivial⟩
  · have hV := h3 rfl
    have hA := pb_of hV
    rw [Bool.not_true, bif_f, bif_f, l30Text_eq hV.len hA, iPT_eq hV.len hA]
    exact ⟨_, rfl, rfl, trivial⟩
end Go.Ab
