/- Own texts, merged: PNames PWithin PPersons PAt PDig PPtA PSpl PSpT PNum PNumS PRpA PRp. -/
import Derived.Test.YtphjibapchafkaaDoorPS
import Derived.Test.YtphjibapchafkaaDoorPL
import Derived.Lib.ItoaNum
import Derived.Test.YtphjibapchafkaaDoorGT
import Derived.Lib.SplitLaws
/- Names (own text). -/
set_option linter.unusedVariables false
set_option linter.unusedSimpArgs false
namespace Go.Ab
open Go.RowKit

/-- A byte of a name. -/
def nb (b : UInt8) : Bool := decide ((97 ≤ b.toNat ∧ b.toNat ≤ 122) ∨ (48 ≤ b.toNat ∧ b.toNat ≤ 57))
def lowHead : List UInt8 → Bool
  | [] => false
  | b :: _ => decide (97 ≤ b.toNat ∧ b.toNat ≤ 122)
/-- A name. -/
def nameOk (s : List UInt8) : Bool := decide (s.length ≤ 10) && (lowHead s && s.all nb)
theorem l01Small_eq (c : Int) : F_spec_l01Small c = some (decide (97 ≤ c ∧ c ≤ 122)) := by
  unfold F_spec_l01Small
  by_cases h : 97 ≤ c <;> simp [h]
theorem l01Digit_eq (c : Int) : F_spec_l01Digit c = some (decide (48 ≤ c ∧ c ≤ 57)) := by
  unfold F_spec_l01Digit
  by_cases h : 48 ≤ c <;> simp [h]
theorem l01Name_eq (s : List UInt8) (hs : s.length ≤ 9223372036854775807) : F_spec_l01Name s = some (nameOk s) := by
  unfold F_spec_l01Name
  cases s with
  | nil => rfl
  | cons b t =>
    have e : loop (F_spec_l01Name_l0 (b :: t)) 0 = some ((b :: t).all nb) := by
      refine loop_all nb hs ?_ ?_
      · intro i k a ha hi
        simp only [F_spec_l01Name_l0, int_lt (get_lt ha), ix_get ha, Option.bind_some, bif_t, l01Small_eq, l01Digit_eq, w64_succ hi, ← decide_not, bif_dec, nb]
        repeat' split
        all_goals first | rfl | (exfalso; omega)
      · intro k; simp [F_spec_l01Name_l0]
    rw [e]
    simp only [reduceCtorEq, decide_false, bif_f, ix_zero, Option.bind_some, l01Small_eq, ← decide_not, bif_dec, nameOk, lowHead]
    split
    · rename_i h; rw [decide_eq_false (by omega)]; rfl
    · rename_i h
      rw [decide_eq_true (by omega)]
      split
      · rename_i h2; rw [decide_eq_false (by omega)]; rfl
      · rename_i h2; rw [decide_eq_true (by omega)]; rfl
theorem onlyNameBytes_eq (s : List UInt8) (hs : s.length ≤ 9223372036854775807) : F_impl_onlyNameBytes s = some (s.all nb) := by
  unfold F_impl_onlyNameBytes
  refine loop_all nb hs ?_ ?_
  · intro i k a ha hi
    simp only [F_impl_onlyNameBytes_l0, int_lt (get_lt ha), ix_get ha, Option.bind_some, bif_t, w64_succ hi, bif_dec, nb]
    repeat' split
    all_goals first | rfl | (exfalso; omega)
  · intro k; simp [F_impl_onlyNameBytes_l0]
theorem IsName_eq (s : List UInt8) (hs : s.length ≤ 9223372036854775807) : F_impl_IsName s = some (nameOk s) := by
  unfold F_impl_IsName
  rw [onlyNameBytes_eq s hs]
  cases s with
  | nil => rfl
  | cons b t =>
    simp only [ix_zero, Option.bind_some, bif_dec, nameOk, lowHead]
    split
    · rename_i h; simp at h; omega
    · split
      · rename_i h; rw [decide_eq_false (by omega)]; rfl
      · rename_i h
        rw [decide_eq_true (by omega)]
        split
        · rename_i h2; rw [decide_eq_false (by omega)]; rfl
        · split
          · rename_i h2; rw [decide_eq_false (by omega)]; rfl
          · rw [decide_eq_true (by omega)]; rfl
end Go.Ab
/- Numbers within bounds (own text). -/
set_option linter.unusedVariables false
set_option linter.unusedSimpArgs false
namespace Go.Ab
open Go.RowKit
theorem l00In_eq (a b c : Int) : F_spec_l00In a b c = some (decide (b ≤ a ∧ a ≤ c)) := by
  unfold F_spec_l00In
  by_cases h : b ≤ a <;> simp [h]
theorem within_eq (a b c : Int) : F_impl_within a b c = some (decide (b ≤ a ∧ a ≤ c)) := by
  unfold F_impl_within
  by_cases h : b ≤ a <;> simp [h]
end Go.Ab
/- Valid persons (own text). -/
set_option linter.unusedVariables false
set_option linter.unusedSimpArgs false
namespace Go.Ab
open Go.RowKit

/-- Where the first person of this name stands. -/
def atP : List TPerson → List UInt8 → Int
  | [], _ => -1
  | p :: A, n => if p.1 = n then 0 else if atP A n < 0 then -1 else atP A n + 1
theorem atP_lt (A : List TPerson) (n : List UInt8) : -1 ≤ atP A n ∧ atP A n < A.length := by
  induction A with
  | nil => simp [atP]
  | cons p A ih =>
    simp only [atP, List.length_cons]
    split
    · omega
    · split <;> omega
/-- A search from each place on. -/
theorem atP_loop {A : List TPerson} {n : List UInt8} {body : (Int → Option Int) → Int → Option Int} (hA : A.length ≤ 9223372036854775807)
    (more : ∀ (i : Nat) k a, A[i]? = some a → i < 9223372036854775807 → body k (i : Int) = bif decide (a.1 = n) then some (i : Int) else k ((i + 1 : Nat) : Int))
    (done : ∀ k, body k (A.length : Int) = some (-1)) : loop body 0 = some (atP A n) := by
  have := loop_at (L := A) (body := body) (fun i => if atP (A.drop i) n < 0 then -1 else (i : Int) + atP (A.drop i) n) hA ?_ ?_
  · rw [this]
    simp only [List.drop_zero]
    have := atP_lt A n
    split <;> congr 1 <;> omega
  · intro i k a ha hi hk
    rw [more i k a ha hi, drop_cons ha]
    simp only [bif_dec, atP]
    split
    · simp
    · rw [hk]
      have := atP_lt (A.drop (i + 1)) n
      split <;> congr 1
      split <;> omega
  · intro k
    rw [done, List.drop_length]
    rfl
theorem l30Find_eq (A : List TPerson) (n : List UInt8) (hA : A.length ≤ 9223372036854775807) : F_spec_l30Find A n = some (atP A n) := by
  unfold F_spec_l30Find
  refine atP_loop hA ?_ ?_
  · intro i k a ha hi
    simp only [F_spec_l30Find_l0, int_lt (get_lt ha), ix_get ha, Option.bind_some, bif_t, w64_succ hi]
  · intro k; simp [F_spec_l30Find_l0]
theorem personAt_eq (A : List TPerson) (n : List UInt8) (hA : A.length ≤ 9223372036854775807) : F_impl_personAt A n = some (atP A n) := by
  unfold F_impl_personAt F_slices_IndexFunc_SPerson_Person
  rw [atP_loop hA]
  · rfl
  · intro i k a ha hi
    simp only [F_slices_IndexFunc_SPerson_Person_l0, F_impl_personAt_1, int_lt (get_lt ha), ix_get ha, Option.bind_some, bif_t, w64_succ hi]
  · intro k; simp [F_slices_IndexFunc_SPerson_Person_l0]

abbrev OkPersons (A : List TPerson) : Prop := OkL OkPerson A
theorem ix_mem {α : Type} {L : List α} {n : Int} {a : α} (h : ix L n = some a) : a ∈ L := List.mem_of_getElem? (ix_some h).2
/-- The inner loops are one. -/
theorem ok_inner {A : List TPerson} (hA : OkPersons A) (i : Int) (p : TPerson) (k : Int → Option Bool) : F_spec_l30Ok_l2 A p i k = F_impl_ValidPersons_l2 A p i k := by
  funext k1 j
  unfold F_spec_l30Ok_l2 F_impl_ValidPersons_l2
  cases h1 : ix p.2.2 j with
  | none => simp only [h1, Option.bind_none]
  | some n =>
    simp only [h1, Option.bind_some, l30Find_eq A n hA.1, personAt_eq A n hA.1, bytes_not]
theorem ok_round {A : List TPerson} (hA : OkPersons A) (h24 : A.length ≤ 24) (k : Int → Option Bool) (i : Int) : F_spec_l30Ok_l0 A k i = F_impl_ValidPersons_l0 A k i := by
  unfold F_spec_l30Ok_l0 F_impl_ValidPersons_l0
  rw [decide_eq_true (p := (A.length : Int) ≤ 24) (by omega)]
  cases h1 : ix A i with
  | none => simp only [h1, Option.bind_none]
  | some p =>
    simp only [h1, Option.bind_some, l01Name_eq p.1 (hA.2 p (ix_mem h1)).1, IsName_eq p.1 (hA.2 p (ix_mem h1)).1, l00In_eq, within_eq, bytes_not, F_spec_l30Ok_j1, F_impl_ValidPersons_j1, ok_inner hA]
/-- What the reference asks of a person, and of persons. -/
structure PP (A : List TPerson) (p : TPerson) : Prop where
  name : nameOk p.1 = true
  born : 0 ≤ p.2.1 ∧ p.2.1 ≤ 3000
  few : p.2.2.length ≤ 4
  tch : ∀ t ∈ p.2.2, ∃ q, 0 ≤ atP A t ∧ ix A (atP A t) = some q ∧ q.2.1 < p.2.1
  srt : ∀ (j : Nat) x y, p.2.2[j]? = some x → p.2.2[j + 1]? = some y → Op.bytesLess x y = true
structure VP (A : List TPerson) : Prop where
  len : A.length ≤ 24
  each : ∀ p ∈ A, PP A p
  srt : ∀ (j : Nat) x y, A[j]? = some x → A[j + 1]? = some y → Op.bytesLess x.1 y.1 = true
/-- The reference's answer is there, and tells this. -/
theorem l30Ok_vp {A : List TPerson} (hA : OkPersons A) : ∃ r, F_spec_l30Ok A = some r ∧ (r = true → VP A) := by
  unfold F_spec_l30Ok
  refine loop_ex (L := A) (fun i s => s = (i : Int) ∧ (∀ p ∈ A.take i, PP A p) ∧ ∀ (j : Nat) x y, j + 1 < i → A[j]? = some x → A[j + 1]? = some y → Op.bytesLess x.1 y.1 = true) hA.1 ⟨rfl, by simp, fun _ _ _ h => by omega⟩ ?_ ?_
  · rintro i _ k p hp hi ⟨rfl, hI, hS⟩ hk
    have ho := hA.2 p (get_mem hp)
    have hpl : p.2.2.length ≤ 9223372036854775807 := ho.2.2.1
    have inner : nameOk p.1 = true → (0 ≤ p.2.1 ∧ p.2.1 ≤ 3000) → p.2.2.length ≤ 4 → (∀ (j : Nat) x, j + 1 = i → A[j]? = some x → Op.bytesLess x.1 p.1 = true) → ∃ r, F_spec_l30Ok_j1 A p (i : Int) k = some r ∧ (r = true → VP A) := by
      intro hn hb hf hprev
      unfold F_spec_l30Ok_j1
      refine loop_ex (L := p.2.2) (fun j s => s = (j : Int) ∧ (∀ t ∈ p.2.2.take j, ∃ q, 0 ≤ atP A t ∧ ix A (atP A t) = some q ∧ q.2.1 < p.2.1) ∧ ∀ (m : Nat) x y, m + 1 < j → p.2.2[m]? = some x → p.2.2[m + 1]? = some y → Op.bytesLess x y = true) hpl ⟨rfl, by simp, fun _ _ _ h => by omega⟩ ?_ ?_
      · rintro j _ k1 n hn hj ⟨rfl, hJ, hT⟩ hk1
        have hat := atP_lt A n
        simp only [F_spec_l30Ok_l2, int_lt (get_lt hn), ix_get hn, Option.bind_some, bif_t, l30Find_eq A n hA.1, w64_succ hj, bif_dec]
        split
        · exact ⟨_, rfl, fun h => by cases h⟩
        · obtain ⟨q, hq⟩ := get_some (L := A) (n := (atP A n).toNat) (by omega)
          have e : ix A (atP A n) = some q := by unfold ix; rw [if_pos (by omega)]; exact hq
          simp only [e, Option.bind_some, bif_dec]
          split
          · exact ⟨_, rfl, fun h => by cases h⟩
          · have hJ' : ∀ t ∈ p.2.2.take (j + 1), ∃ q, 0 ≤ atP A t ∧ ix A (atP A t) = some q ∧ q.2.1 < p.2.1 := by
              intro t ht
              rw [take_succ hn] at ht
              rcases List.mem_append.1 ht with ht | ht
              · exact hJ t ht
              · rw [List.mem_singleton.1 ht]; exact ⟨q, by omega, e, by omega⟩
            split
            · rename_i h0
              obtain ⟨j', rfl⟩ : ∃ j', j = j' + 1 := ⟨j - 1, by omega⟩
              obtain ⟨m, hm⟩ := get_some (L := p.2.2) (n := j') (by have := get_lt hn; omega)
              rw [w64_pred (by omega), ix_get hm]
              simp only [Option.bind_some]
              cases hless : Op.bytesLess m n
              · exact ⟨_, rfl, fun h => by cases h⟩
              · refine hk1 _ ⟨rfl, hJ', ?_⟩
                intro a x y ha hx hy
                by_cases h2 : a + 1 = j' + 1
                · have : a = j' := by omega
                  subst this
                  rw [hm] at hx; rw [hn] at hy
                  simp only [Option.some.injEq] at hx hy
                  subst hx; subst hy; exact hless
                · exact hT a x y (by omega) hx hy
            · exact hk1 _ ⟨rfl, hJ', fun a x y ha hx hy => by omega⟩
      · rintro _ k1 ⟨rfl, hJ, hT⟩
        simp only [F_spec_l30Ok_l2, int_lt_self, bif_f, w64_succ hi]
        rw [take_all (Nat.le_refl _)] at hJ
        refine hk _ ⟨rfl, ?_, ?_⟩
        · intro x hx
          rw [take_succ hp] at hx
          rcases List.mem_append.1 hx with hx | hx
          · exact hI x hx
          · rw [List.mem_singleton.1 hx]
            exact ⟨hn, hb, hf, hJ, fun j x y hx hy => hT j x y (get_lt hy) hx hy⟩
        · intro j x y hj hx hy
          by_cases h2 : j + 1 = i
          · rw [h2, hp] at hy
            simp only [Option.some.injEq] at hy
            subst hy; exact hprev j x h2 hx
          · exact hS j x y (by omega) hx hy
    simp only [F_spec_l30Ok_l0, int_lt (get_lt hp), ix_get hp, Option.bind_some, bif_t, l01Name_eq p.1 ho.1, l00In_eq, bif_dec]
    cases hn : nameOk p.1
    · exact ⟨_, rfl, fun h => by cases h⟩
    simp only [Bool.not_true, bif_f, ← decide_not, bif_dec]
    split
    · exact ⟨_, rfl, fun h => by cases h⟩
    split
    · exact ⟨_, rfl, fun h => by cases h⟩
    split
    · obtain ⟨i', rfl⟩ : ∃ i', i = i' + 1 := ⟨i - 1, by omega⟩
      obtain ⟨m, hm⟩ := get_some (L := A) (n := i') (by have := get_lt hp; omega)
      rw [w64_pred (by omega), ix_get hm]
      simp only [Option.bind_some]
      cases hless : Op.bytesLess m.1 p.1
      · exact ⟨_, rfl, fun h => by cases h⟩
      · refine inner hn (by omega) (by omega) ?_
        intro j x hj hx
        have : j = i' := by omega
        subst this
        rw [hm] at hx
        simp only [Option.some.injEq] at hx
        subst hx; exact hless
    · exact inner hn (by omega) (by omega) (fun j x hj hx => by omega)
  · rintro _ k ⟨rfl, hI, hS⟩
    simp only [F_spec_l30Ok_l0, int_lt_self, bif_f]
    rw [take_all (Nat.le_refl _)] at hI
    exact ⟨_, rfl, fun h => ⟨by have := of_decide_eq_true h; omega, hI, fun j x y hx hy => hS j x y (get_lt hy) hx hy⟩⟩
/-- Too many persons are not valid. -/
theorem l30Ok_some {A : List TPerson} (hA : OkPersons A) : ∃ r, F_spec_l30Ok A = some r ∧ (24 < A.length → r = false) := by
  obtain ⟨r, h1, h2⟩ := l30Ok_vp hA
  refine ⟨r, h1, fun h => ?_⟩
  cases r
  · rfl
  · have := (h2 rfl).len; omega
theorem valid_eq {A : List TPerson} (hA : OkPersons A) : ∃ r, F_spec_l30Ok A = some r ∧ F_impl_ValidPersons A = some r ∧ (r = true → VP A) := by
  obtain ⟨r, h1, h3⟩ := l30Ok_vp hA
  obtain ⟨r', h1', h2⟩ := l30Ok_some hA
  rw [h1] at h1'
  simp only [Option.some.injEq] at h1'
  subst h1'
  refine ⟨r, h1, ?_, h3⟩
  unfold F_impl_ValidPersons
  rw [bif_dec]
  split
  · rw [h2 (by omega)]
  · rw [← h1]
    unfold F_spec_l30Ok
    have : F_spec_l30Ok_l0 A = F_impl_ValidPersons_l0 A := by funext k i; exact ok_round hA (by omega) k i
    rw [this]
end Go.Ab
/- Names of valid persons; names among names (own text). -/
set_option linter.unusedVariables false
set_option linter.unusedSimpArgs false
namespace Go.Ab
open Go.RowKit

theorem name_at : ∀ {A : List TPerson} {t : List UInt8} {q : TPerson}, ix A (atP A t) = some q → q.1 = t
  | [], t, q, h => by simp [atP, ix] at h
  | p :: A, t, q, h => by
    unfold atP at h
    by_cases h1 : p.1 = t
    · rw [if_pos h1] at h
      simp [ix] at h
      rw [← h]; exact h1
    · rw [if_neg h1] at h
      by_cases h2 : atP A t < 0
      · rw [if_pos h2] at h; simp [ix] at h
      · rw [if_neg h2] at h
        have h3 : (atP A t + 1).toNat = (atP A t).toNat + 1 := by omega
        simp only [ix, show (0 : Int) ≤ atP A t + 1 by omega, if_true, h3, List.getElem?_cons_succ] at h
        exact name_at (A := A) (t := t) (by unfold ix; rw [if_pos (by omega)]; exact h)
theorem at_pos {A : List TPerson} {t : List UInt8} (h : 0 ≤ atP A t) : ∃ q, A[(atP A t).toNat]? = some q ∧ ix A (atP A t) = some q ∧ q.1 = t := by
  have := atP_lt A t
  obtain ⟨q, hq⟩ := get_some (L := A) (n := (atP A t).toNat) (by omega)
  have h2 : ix A (atP A t) = some q := by unfold ix; rw [if_pos h]; exact hq
  exact ⟨q, hq, h2, name_at h2⟩
/-- Names stand in order: no two are alike. -/
theorem srt_lt {A : List TPerson} (hs : ∀ (j : Nat) x y, A[j]? = some x → A[j + 1]? = some y → Op.bytesLess x.1 y.1 = true) : ∀ (d i : Nat) x y, A[i]? = some x → A[i + d + 1]? = some y → Op.bytesLess x.1 y.1 = true
  | 0, i, x, y, hx, hy => hs i x y hx hy
  | d + 1, i, x, y, hx, hy => by
    obtain ⟨z, hz⟩ := get_some (L := A) (n := i + d + 1) (by have := get_lt hy; omega)
    exact bytes_trans (srt_lt hs d i x z hx hz) (hs _ z y hz hy)
theorem same_name {A : List TPerson} (hs : ∀ (j : Nat) x y, A[j]? = some x → A[j + 1]? = some y → Op.bytesLess x.1 y.1 = true) {i j : Nat} {x y : TPerson} (hx : A[i]? = some x) (hy : A[j]? = some y) (h : x.1 = y.1) : i = j := by
  rcases Nat.lt_trichotomy i j with h1 | h1 | h1
  · have := srt_lt hs (j - i - 1) i x y hx (by rw [show i + (j - i - 1) + 1 = j by omega]; exact hy)
    rw [h, bytes_irrefl] at this; cases this
  · exact h1
  · have := srt_lt hs (i - j - 1) j y x hy (by rw [show j + (i - j - 1) + 1 = i by omega]; exact hx)
    rw [h, bytes_irrefl] at this; cases this
theorem at_self {A : List TPerson} (hV : VP A) {i : Nat} {a : TPerson} (h : A[i]? = some a) : atP A a.1 = (i : Int) := by
  have h0 : 0 ≤ atP A a.1 := by
    have key : ∀ (A : List TPerson), a ∈ A → 0 ≤ atP A a.1 := by
      intro A
      induction A with
      | nil => intro h; simp at h
      | cons p A ih =>
        intro h
        simp only [atP]
        split
        · omega
        · rename_i hne
          rcases List.mem_cons.1 h with h | h
          · exact absurd (by rw [h]) hne
          · have := ih h
            rw [if_neg (by omega)]; omega
    exact key A (get_mem h)
  obtain ⟨q, hq, _, hn⟩ := at_pos h0
  have := same_name hV.srt hq h hn
  omega
/-- One of a name. -/
theorem same_one {A : List TPerson} (hV : VP A) {p q : TPerson} (hp : p ∈ A) (hq : q ∈ A) (h : p.1 = q.1) : p = q := by
  obtain ⟨i, hi⟩ := List.mem_iff_getElem?.1 hp
  obtain ⟨j, hj⟩ := List.mem_iff_getElem?.1 hq
  have := same_name hV.srt hi hj h
  subst this
  rw [hi] at hj; exact Option.some.inj hj
end Go.Ab
/- Digits (own text). -/
set_option linter.unusedVariables false
set_option linter.unusedSimpArgs false
namespace Go.Ab
open Go.RowKit
open Go.Lib (itoa decDigits)
theorem dig_len : ∀ (k u : Nat), u < 10 ^ (k + 1) → (decDigits u).length ≤ k + 1
  | 0, u, h => by rw [decDigits, dif_pos (by simpa using h)]; simp
  | k + 1, u, h => by
    rw [decDigits]
    split
    · simp
    · have := dig_len k (u / 10) (by rw [Nat.pow_succ] at h; omega)
      rw [List.length_append, List.length_singleton]; omega
/-- The digits, none for 0. -/
def dg0 (u : Nat) : List UInt8 := if u = 0 then [] else decDigits u
theorem dg0_step {u : Nat} (h : u ≠ 0) : dg0 u = dg0 (u / 10) ++ [UInt8.ofNat (48 + u % 10)] := by
  unfold dg0
  rw [if_neg h, decDigits]
  by_cases h1 : u < 10
  · rw [dif_pos h1, if_pos (by omega), Nat.mod_eq_of_lt h1]; rfl
  · rw [dif_neg h1, if_neg (by omega)]
end Go.Ab
/- Persons as text (own text). -/
set_option linter.unusedVariables false
set_option linter.unusedSimpArgs false
namespace Go.Ab
open Go.RowKit
open Go.Lib (itoa decDigits join)
theorem tail_len (m : Nat) (sep : List UInt8) : ∀ L : List (List UInt8), (∀ x ∈ L, x.length ≤ m) → (Go.Lib.joinTail sep L).length ≤ L.length * (m + sep.length)
  | [], _ => by simp [Go.Lib.joinTail]
  | x :: L, h => by
    have ih := tail_len m sep L (fun y hy => h y (by simp [hy]))
    have hx := h x (by simp)
    simp only [Go.Lib.joinTail, List.map_cons, List.flatten_cons, List.length_append, List.length_cons, Nat.add_mul, Nat.one_mul] at ih ⊢
    omega
theorem join_len (m : Nat) (sep : List UInt8) (L : List (List UInt8)) (h : ∀ x ∈ L, x.length ≤ m) : (join L sep).length ≤ (L.length + 1) * (m + sep.length) := by
  cases L with
  | nil => simp [Go.Lib.join_nil]
  | cons x L =>
    have hx := h x (by simp)
    have := tail_len m sep L (fun y hy => h y (by simp [hy]))
    rw [Go.Lib.join_cons, List.length_append, List.length_cons]
    have e : (L.length + 1 + 1) * (m + sep.length) = L.length * (m + sep.length) + (m + sep.length) + (m + sep.length) := by simp only [Nat.add_mul, Nat.one_mul]
    omega
theorem join_snoc {L : List (List UInt8)} (h : L ≠ []) (x sep : List UInt8) : join (L ++ [x]) sep = (join L sep ++ sep) ++ x := by
  cases L with
  | nil => exact absurd rfl h
  | cons y L => simp [Go.Lib.join_cons, Go.Lib.joinTail, List.append_assoc]
theorem Decimal_eq {n : Int} (h : -9223372036854775808 ≤ n ∧ n ≤ 9223372036854775807) : F_impl_Decimal n = some (itoa n) := by
  unfold F_impl_Decimal F_formatInt
  rw [need_true ⟨by decide, h.1, h.2⟩]; rfl
/-- A person as text. -/
def persT (p : TPerson) : List UInt8 := join ([p.1, itoa p.2.1] ++ p.2.2) [32]
/-- What stands in the bounds. -/
structure PB (p : TPerson) : Prop where
  name : p.1.length ≤ 10
  born : 0 ≤ p.2.1 ∧ p.2.1 ≤ 3000
  few : p.2.2.length ≤ 4
  each : ∀ t ∈ p.2.2, t.length ≤ 10
theorem name_len {s : List UInt8} (h : nameOk s = true) : s.length ≤ 10 := by
  unfold nameOk at h
  simp only [Bool.and_eq_true, decide_eq_true_eq] at h
  exact h.1
theorem born_len {n : Int} (h : 0 ≤ n ∧ n ≤ 3000) : (itoa n).length ≤ 4 := by
  unfold itoa
  rw [if_neg (by omega)]
  exact dig_len 3 _ (by omega)
theorem pers_len {p : TPerson} (h : PB p) : (persT p).length ≤ 77 := by
  have hb := born_len h.born
  have := join_len 10 [32] ([p.1, itoa p.2.1] ++ p.2.2) (by
    intro x hx
    rcases List.mem_append.1 hx with hx | hx
    · rcases List.mem_cons.1 hx with rfl | hx
      · exact h.name
      · rw [List.mem_singleton.1 hx]; omega
    · exact h.each x hx)
  have h3 : (([p.1, itoa p.2.1] ++ p.2.2).length + 1) * (10 + [(32 : UInt8)].length) ≤ 7 * 11 := Nat.mul_le_mul (by rw [List.length_append]; have := h.few; simp; omega) (by decide)
  unfold persT
  omega
theorem texts_len {A : List TPerson} (hl : A.length ≤ 24) (hA : ∀ p ∈ A, PB p) (n : Nat) : (join ((A.take n).map persT) [47]).length ≤ 2000 := by
  have := join_len 77 [47] ((A.take n).map persT) (by
    intro y hy
    obtain ⟨x, hx, rfl⟩ := List.mem_map.1 hy
    exact pers_len (hA x (List.mem_of_mem_take hx)))
  rw [List.length_map, List.length_take] at this
  have h3 : (min n A.length + 1) * (77 + [(47 : UInt8)].length) ≤ 25 * 78 := Nat.mul_le_mul (by omega) (by decide)
  omega
theorem persT_take (p : TPerson) (k : Nat) {t : List UInt8} (h : p.2.2[k]? = some t) : join ([p.1, itoa p.2.1] ++ p.2.2.take (k + 1)) [32] = join ([p.1, itoa p.2.1] ++ p.2.2.take k) [32] ++ ([32] ++ t) := by
  rw [take_succ h, ← List.append_assoc, join_snoc (by simp), List.append_assoc]
theorem pb_of {A : List TPerson} (hV : VP A) : ∀ p ∈ A, PB p := by
  intro p hp
  have h := hV.each p hp
  refine ⟨name_len h.name, h.born, h.few, ?_⟩
  intro t ht
  obtain ⟨q, h0, hq, _⟩ := h.tch t ht
  have he := name_at hq
  have hqA : q ∈ A := ix_mem hq
  rw [← he]
  exact name_len (hV.each q hqA).name
theorem iPT_eq {A : List TPerson} (hl : A.length ≤ 24) (hA : ∀ p ∈ A, PB p) : loop (F_impl_PersonsText_l0 A) (0, []) = some (join (A.map persT) [47]) := by
  suffices H : ∃ r, loop (F_impl_PersonsText_l0 A) (0, []) = some r ∧ r = join (A.map persT) [47] by
    obtain ⟨r, e, hr⟩ := H
    rw [e, hr]
  refine loop_ex (L := A) (fun i st => st.1 = (i : Int) ∧ st.2 = (A.take i).map persT) (by omega) ⟨rfl, rfl⟩ ?_ ?_
  · rintro i ⟨j, out⟩ k p hp hi ⟨rfl, hout⟩ hk
    dsimp only at hout
    subst hout
    have hP := hA p (get_mem hp)
    have hpl := pers_len hP
    have hfew := hP.few
    simp only [F_impl_PersonsText_l0, int_lt (get_lt hp), ix_get hp, Option.bind_some, bif_t, w64_succ hi, Decimal_eq (show -9223372036854775808 ≤ p.2.1 ∧ p.2.1 ≤ 9223372036854775807 by have := hP.born; omega)]
    rw [need_true (p := room ([p.1, itoa p.2.1].length + p.2.2.length) 16) (show room (2 + p.2.2.length) 16 from ⟨by omega, by omega⟩)]
    have hj : F_join ([p.1, itoa p.2.1] ++ p.2.2) [32] = some (persT p) := by
      unfold F_join
      exact need_true ⟨by rw [List.length_append]; simp; omega, by show (persT p).length ≤ _; omega⟩
    rw [hj, Option.bind_some, need_true (p := room (((A.take i).map persT).length + [persT p].length) 16) (show room (((A.take i).map persT).length + 1) 16 by rw [List.length_map, List.length_take]; exact ⟨by omega, by omega⟩)]
    exact hk _ ⟨rfl, by dsimp only; rw [take_succ hp, List.map_append]; rfl⟩
  · rintro ⟨j, out⟩ k ⟨rfl, hout⟩
    dsimp only at hout
    rw [take_all (Nat.le_refl _)] at hout
    subst hout
    simp only [F_impl_PersonsText_l0, int_lt_self, bif_f]
    have := texts_len hl hA A.length
    rw [take_all (Nat.le_refl _)] at this
    unfold F_join
    rw [need_true ⟨by rw [List.length_map]; omega, by omega⟩]
    exact ⟨_, rfl, rfl⟩
end Go.Ab
/- Texts divided at a byte (own text). -/
set_option linter.unusedVariables false
set_option linter.unusedSimpArgs false
namespace Go.Ab
open Go.RowKit

/-- What stands ahead of the first piece. -/
def ahead (p : List UInt8) : List (List UInt8) → List (List UInt8)
  | h :: t => (p ++ h) :: t
  | [] => [p]
def spl (c : UInt8) : List UInt8 → List (List UInt8)
  | [] => [[]]
  | x :: s => if x = c then [] :: spl c s else ahead [x] (spl c s)
def splN (c : UInt8) : Nat → List UInt8 → List (List UInt8)
  | 0, s => [s]
  | _ + 1, [] => [[]]
  | k + 1, x :: s => if x = c then [] :: splN c k s else ahead [x] (splN c (k + 1) s)
theorem ahead_ahead (p q : List UInt8) (l : List (List UInt8)) : ahead p (ahead q l) = ahead (p ++ q) l := by
  cases l <;> simp [ahead]
theorem ahead_nil {l : List (List UInt8)} (h : l ≠ []) : ahead [] l = l := by
  cases l with
  | nil => exact absurd rfl h
  | cons => rfl
theorem ahead_ne (p : List UInt8) (l : List (List UInt8)) : ahead p l ≠ [] := by cases l <;> simp [ahead]
theorem spl_ne (c : UInt8) (s : List UInt8) : spl c s ≠ [] := by
  cases s with
  | nil => simp [spl]
  | cons x s =>
    simp only [spl]
    split
    · simp
    · exact ahead_ne _ _
theorem spl_len (c : UInt8) (s : List UInt8) : (spl c s).length ≤ s.length + 1 := by
  induction s with
  | nil => simp [spl]
  | cons x s ih =>
    simp only [spl]
    split
    · simp; exact ih
    · have : (ahead [x] (spl c s)).length = (spl c s).length := by
        cases h : spl c s with
        | nil => exact absurd h (spl_ne c s)
        | cons => rfl
      rw [this, List.length_cons]; omega
theorem spl_nil {c : UInt8} {p : List UInt8} : ahead p (spl c []) = [p] := by simp [spl, ahead]
theorem spl_hit {c : UInt8} {p s : List UInt8} : ahead p (spl c (c :: s)) = p :: spl c s := by simp [spl, ahead]
theorem spl_miss {c x : UInt8} {p s : List UInt8} (h : x ≠ c) : ahead p (spl c (x :: s)) = ahead (p ++ [x]) (spl c s) := by
  simp only [spl, h, if_false]
  exact ahead_ahead _ _ _
/-- The pieces hold no byte of the kind, and are no longer than the whole. -/
theorem ahead_mem {p : List UInt8} {l : List (List UInt8)} {Q : List UInt8 → Prop} (h1 : ∀ h t, l = h :: t → Q (p ++ h)) (h0 : l = [] → Q p) (h2 : ∀ x ∈ l, Q x) : ∀ x ∈ ahead p l, Q x := by
  cases l with
  | nil => intro x hx; rw [List.mem_singleton.1 hx]; exact h0 rfl
  | cons h t =>
    intro x hx
    rcases List.mem_cons.1 hx with rfl | hx
    · exact h1 h t rfl
    · exact h2 x (by simp [hx])
theorem spl_sum (c : UInt8) (s : List UInt8) : ∀ x ∈ spl c s, x.length ≤ s.length ∧ c ∉ x := by
  induction s with
  | nil => simp [spl]
  | cons y s ih =>
    simp only [spl]
    split
    · intro x hx
      rcases List.mem_cons.1 hx with rfl | hx
      · simp
      · obtain ⟨h1, h2⟩ := ih x hx
        exact ⟨by simp only [List.length_cons]; omega, h2⟩
    · rename_i hne
      refine ahead_mem ?_ (fun h => absurd h (spl_ne c s)) ?_
      · intro h t e
        obtain ⟨h1, h2⟩ := ih h (by rw [e]; simp)
        refine ⟨by simp only [List.length_append, List.length_cons, List.length_nil]; omega, ?_⟩
        simp only [List.singleton_append, List.mem_cons, not_or]
        exact ⟨fun e => hne e.symm, h2⟩
      · intro x hx
        obtain ⟨h1, h2⟩ := ih x hx
        exact ⟨by simp only [List.length_cons]; omega, h2⟩

theorem index_one (c x : UInt8) (s : List UInt8) : Go.Lib.index (x :: s) [c] = if x = c then 0 else if Go.Lib.index s [c] = -1 then -1 else Go.Lib.index s [c] + 1 := by
  simp only [Go.Lib.index, List.isPrefixOf, Bool.and_true, beq_iff_eq]
  by_cases h : x = c
  · subst h; simp
  · simp [h, show ¬ c = x from fun e => h e.symm]
theorem splitK_eq (c : UInt8) : ∀ (s : List UInt8) (k : Nat), Go.Lib.splitK [c] 0 k s = splN c k s
  | s, 0 => by simp [Go.Lib.splitK, splN]
  | [], k + 1 => by simp [Go.Lib.splitK, splN, Go.Lib.index]
  | x :: s, k + 1 => by
    have ih := splitK_eq c s (k + 1)
    have ih0 := splitK_eq c s k
    have hge := Go.Lib.index_ge s [c]
    simp only [Go.Lib.splitK, splN, index_one, beq_iff_eq] at ih ⊢
    by_cases h : x = c
    · simp [h, ih0]
    · simp only [h, if_false]
      by_cases h2 : Go.Lib.index s [c] = -1
      · simp only [h2, if_true] at ih ⊢
        rw [← ih]; simp [ahead]
      · simp only [h2, if_false] at ih ⊢
        rw [← ih]
        have e1 : ¬ (Go.Lib.index s [c] + 1 = -1) := by omega
        have e2 : (Go.Lib.index s [c] + 1).toNat = (Go.Lib.index s [c]).toNat + 1 := by omega
        rw [if_neg e1, e2]
        simp [ahead, Nat.add_right_comm]
theorem splN_all (c : UInt8) : ∀ (s : List UInt8) (k : Nat), s.count c ≤ k → splN c k s = spl c s
  | [], 0, _ => rfl
  | [], k + 1, _ => rfl
  | x :: s, 0, h => by
    have hx : x ≠ c := by rintro rfl; simp at h
    have hs : s.count c ≤ 0 := by rw [List.count_cons_of_ne hx] at h; exact h
    have ih := splN_all c s 0 hs
    simp only [splN, spl, hx, if_false] at ih ⊢
    rw [← ih]; simp [ahead]
  | x :: s, k + 1, h => by
    simp only [splN, spl]
    by_cases hx : x = c
    · subst hx
      rw [List.count_cons_self] at h
      simp only [if_true]
      rw [splN_all x s k (by omega)]
    · rw [List.count_cons_of_ne hx] at h
      simp only [hx, if_false]
      rw [splN_all c s (k + 1) h]
theorem F_split_eq {s : List UInt8} (c : UInt8) (h : s.length < 4294967281) : F_split s [c] = some (spl c s) := by
  unfold F_split
  rw [need_true ⟨h, by simp⟩, Go.Lib.splitB_data, bz_data, bz_data, splitK_eq]
  congr 1
  refine splN_all c s _ ?_
  have : Go.Lib.countB (bz s) (bz [c]) = Go.Lib.count s [c] := by unfold Go.Lib.countB; rw [bz_data, bz_data]
  rw [this, Go.Lib.count_one]
  exact Nat.le_refl _
theorem F_splitN_eq {s : List UInt8} (c : UInt8) {n : Nat} (h : s.length < 4294967281) (h1 : 1 ≤ n) (h2 : n ≤ 9223372036854775807) : F_splitN s [c] (n : Int) = some (splN c (min n (s.length + 1) - 1) s) := by
  unfold F_splitN
  rw [need_true ⟨h, by simp, by omega, by omega⟩, Go.Lib.splitB_data, bz_data, bz_data, splitK_eq]
  rfl
/-- At the first byte of a kind. -/
def cutA (c : UInt8) (s : List UInt8) : List UInt8 × List UInt8 × Bool := (s.takeWhile (fun x => !decide (x = c)), (s.dropWhile (fun x => !decide (x = c))).tail, decide (c ∈ s))
theorem cut_eq (c : UInt8) : ∀ s : List UInt8, Go.Lib.cut s [c] = cutA c s
  | [] => by simp [Go.Lib.cut, cutA, Go.Lib.index]
  | x :: s => by
    have ih := cut_eq c s
    have hge := Go.Lib.index_ge s [c]
    simp only [Go.Lib.cut, cutA, index_one] at ih ⊢
    by_cases h : x = c
    · subst h; simp
    · have hcx : c ≠ x := fun e => h e.symm
      simp only [h, if_false] at ih ⊢
      by_cases h2 : Go.Lib.index s [c] = -1
      · simp only [h2, if_true] at ih ⊢
        simp only [show ¬ ((0 : Int) ≤ -1) by decide, if_false, Prod.mk.injEq] at ih ⊢
        obtain ⟨i1, i2, i3⟩ := ih
        have i3' : c ∉ s := by simpa using i3.symm
        simp only [List.takeWhile_cons, List.dropWhile_cons, h, ← i1, ← i2, decide_false, Bool.not_false, if_true, true_and]
        simp [hcx, i3']
      · have e1 : (0 : Int) ≤ Go.Lib.index s [c] + 1 := by omega
        have e0 : (0 : Int) ≤ Go.Lib.index s [c] := by omega
        have e2 : (Go.Lib.index s [c] + 1).toNat = (Go.Lib.index s [c]).toNat + 1 := by omega
        simp only [h2, if_false, e1, e2, e0, if_true, Prod.mk.injEq] at ih ⊢
        obtain ⟨i1, i2, i3⟩ := ih
        have i3' : c ∈ s := by simpa using i3.symm
        simp only [List.takeWhile_cons, List.dropWhile_cons, h, ← i1, ← i2, decide_false, Bool.not_false, if_true]
        simp [hcx, i3', Nat.add_right_comm]
theorem F_cut_eq {s : List UInt8} (c : UInt8) (h : s.length < 4294967281) : F_cut s [c] = some (cutA c s) := by
  unfold F_cut
  rw [need_true h, cut_eq]
end Go.Ab
/- The reference's Split (own text). -/
set_option linter.unusedVariables false
set_option linter.unusedSimpArgs false
namespace Go.Ab
open Go.RowKit
theorem sub_nat {α : Type} (L : List α) (a b : Nat) : sub L (a : Int) (b : Int) = (L.take b).drop a := by simp [sub]
theorem sub_step {α : Type} {L : List α} {a i : Nat} {x : α} (h : L[i]? = some x) (ha : a ≤ i) : (L.take (i + 1)).drop a = (L.take i).drop a ++ [x] := by
  rw [take_succ h, List.drop_append_of_le_length (by have := get_lt h; rw [List.length_take]; omega)]
theorem Split_eq (s : List UInt8) (c : UInt8) (hs : s.length ≤ 2000000) : F_spec_l01Split s (c.toNat : Int) = some (spl c s) := by
  unfold F_spec_l01Split
  suffices H : ∃ r, loop (F_spec_l01Split_l0 s (c.toNat : Int)) (0, 0, []) = some r ∧ r = spl c s by
    obtain ⟨r, e, hr⟩ := H
    rw [e, hr]
  refine loop_ex (L := s) (fun i st => ∃ a : Nat, st.1 = (a : Int) ∧ st.2.1 = (i : Int) ∧ a ≤ i ∧ st.2.2.length ≤ i ∧ spl c s = st.2.2 ++ ahead ((s.take i).drop a) (spl c (s.drop i))) (by omega)
    ⟨0, rfl, rfl, Nat.le_refl _, Nat.le_refl _, by simp [ahead_nil (spl_ne c s)]⟩ ?_ ?_
  · rintro i ⟨x1, x2, acc⟩ k x hx hi ⟨a, h1, h2, h3, h4, h5⟩ hk
    dsimp only at h1 h2 h4 h5
    subst h1 h2
    have hl := get_lt hx
    simp only [F_spec_l01Split_l0, int_lt hl, ix_get hx, Option.bind_some, bif_t, w64_succ hi, List.length_singleton]
    rw [drop_cons hx] at h5
    by_cases hc : x = c
    · subst hc
      rw [decide_eq_true rfl, bif_t, need_true ⟨by omega, by omega, by omega⟩, need_true (p := room _ _) (show room (acc.length + 1) 16 from ⟨by omega, by omega⟩)]
      rw [spl_hit] at h5
      refine hk _ ⟨i + 1, rfl, rfl, Nat.le_refl _, ?_, ?_⟩
      · simp; omega
      · dsimp only
        rw [h5, sub_nat, show (List.take (i + 1) s).drop (i + 1) = [] from List.drop_eq_nil_of_le (by rw [List.length_take]; omega), ahead_nil (spl_ne _ _)]
        simp
    · have : ¬ ((x.toNat : Int) = (c.toNat : Int)) := fun e => hc (UInt8.toNat_inj.1 (by omega))
      rw [decide_eq_false this, bif_f]
      refine hk _ ⟨a, rfl, rfl, by omega, by dsimp only; omega, ?_⟩
      dsimp only
      rw [spl_miss hc] at h5
      rw [h5, sub_step hx h3]
  · rintro ⟨x1, x2, acc⟩ k ⟨a, h1, h2, h3, h4, h5⟩
    dsimp only at h1 h2 h4 h5
    subst h1 h2
    simp only [F_spec_l01Split_l0, int_lt_self, bif_f, List.length_singleton]
    rw [need_true ⟨by omega, by omega, by omega⟩, need_true (p := room _ _) (show room (acc.length + 1) 16 from ⟨by omega, by omega⟩)]
    refine ⟨_, rfl, ?_⟩
    rw [h5, List.drop_length, spl_nil, sub_nat]
end Go.Ab
/- Numerals read back (own text). -/
set_option linter.unusedVariables false
set_option linter.unusedSimpArgs false
namespace Go.Ab
open Go.RowKit
open Go.Lib (itoa decDigits)
def dgt (c : UInt8) : Bool := decide (48 ≤ c.toNat ∧ c.toNat ≤ 57)
def val1 (a : Nat) (c : UInt8) : Nat := a * 10 + (c.toNat - 48)
def val (d : List UInt8) : Nat := d.foldl val1 0
theorem val_snoc (d : List UInt8) (c : UInt8) : val (d ++ [c]) = val d * 10 + (c.toNat - 48) := by unfold val; rw [List.foldl_append]; rfl
theorem byte_at {k : Nat} (h : k < 10) : (UInt8.ofNat (48 + k)).toNat = 48 + k := by
  rw [UInt8.toNat_ofNat']; omega
theorem head_app {a b : List UInt8} (h : a ≠ []) : (a ++ b).head? = a.head? := by
  cases a with
  | nil => exact absurd rfl h
  | cons => rfl
theorem dig_val (u : Nat) : val (decDigits u) = u ∧ (decDigits u).all dgt = true ∧ decDigits u ≠ [] ∧ (u ≠ 0 → (decDigits u).head? ≠ some 48) := by
  induction u using Nat.strongRecOn with
  | _ u ih =>
    rw [decDigits]
    by_cases h : u < 10
    · rw [dif_pos h]
      have hb := byte_at h
      refine ⟨?_, ?_, by simp, ?_⟩
      · show 0 * 10 + ((UInt8.ofNat (48 + u)).toNat - 48) = u; omega
      · simp only [List.all_cons, List.all_nil, Bool.and_true, dgt]; exact decide_eq_true (by omega)
      · intro hu e
        simp only [List.head?_cons, Option.some.injEq] at e
        rw [e] at hb
        have : (48 : UInt8).toNat = 48 := rfl
        omega
    · rw [dif_neg h]
      obtain ⟨h1, h2, h3, h4⟩ := ih (u / 10) (by omega)
      have hb := byte_at (k := u % 10) (by omega)
      refine ⟨?_, ?_, by simp, ?_⟩
      · rw [val_snoc, h1, hb]; omega
      · rw [List.all_append, h2, Bool.true_and]
        simp only [List.all_cons, List.all_nil, Bool.and_true, dgt]; exact decide_eq_true (by omega)
      · intro _
        rw [head_app h3]
        exact h4 (by omega)
theorem val_pos {c : UInt8} {d : List UInt8} (hc : dgt c = true) (h0 : c ≠ 48) : 1 ≤ val (c :: d) := by
  have hk : ∀ (d : List UInt8) (a : Nat), 1 ≤ a → 1 ≤ d.foldl val1 a := by
    intro d
    induction d with
    | nil => intro a h; exact h
    | cons x d ih => intro a h; exact ih _ (by unfold val1; omega)
  refine hk d _ ?_
  unfold val1
  have h1 := of_decide_eq_true hc
  have : c.toNat ≠ 48 := fun e => h0 (UInt8.toNat_inj.1 e)
  omega
theorem val_dig : ∀ (n : Nat) (d : List UInt8), d.length = n → d.all dgt = true → d ≠ [] → (d.head? = some 48 → d.length = 1) → decDigits (val d) = d
  | 0, d, hn, _, h0, _ => absurd (List.eq_nil_of_length_eq_zero hn) h0
  | n + 1, d, hn, ha, h0, h48 => by
    obtain ⟨d', c, rfl⟩ : ∃ d' c, d = d' ++ [c] := ⟨d.dropLast, d.getLast h0, (List.dropLast_concat_getLast h0).symm⟩
    rw [List.all_append, Bool.and_eq_true] at ha
    have hc : dgt c = true := by simpa using ha.2
    have hc' := of_decide_eq_true hc
    have hcb : UInt8.ofNat (48 + (c.toNat - 48)) = c := by
      apply UInt8.toNat_inj.1
      rw [byte_at (by omega)]; omega
    rw [val_snoc, decDigits]
    by_cases hd : d' = []
    · subst hd
      have : val [] = 0 := rfl
      rw [this, dif_pos (by omega)]
      simp only [Nat.zero_mul, Nat.zero_add, hcb, List.nil_append]
    · have hl : d'.length = n := by rw [List.length_append, List.length_singleton] at hn; omega
      have hd1 : 1 ≤ d'.length := List.length_pos_iff.2 hd
      have hh : d'.head? ≠ some 48 := by
        intro e
        have := h48 (by rw [head_app hd]; exact e)
        rw [List.length_append, List.length_singleton] at this
        omega
      have ih := val_dig n d' hl ha.1 hd (fun e => absurd e hh)
      have hpos : 1 ≤ val d' := by
        cases d' with
        | nil => exact absurd rfl hd
        | cons x t =>
          have hx : dgt x = true := by have := ha.1; rw [List.all_cons, Bool.and_eq_true] at this; exact this.1
          exact val_pos hx (fun e => hh (by rw [e]; rfl))
      rw [dif_neg (by omega), show (val d' * 10 + (c.toNat - 48)) / 10 = val d' by omega, ih, show (val d' * 10 + (c.toNat - 48)) % 10 = c.toNat - 48 by omega, hcb]
theorem val_lt (d : List UInt8) : d.all dgt = true → ∀ a : Nat, d.foldl val1 a < (a + 1) * 10 ^ d.length := by
  induction d with
  | nil => intro _ a; simp
  | cons c d ih =>
    intro ha a
    rw [List.all_cons, Bool.and_eq_true] at ha
    have hc := of_decide_eq_true ha.1
    have h1 := ih ha.2 (val1 a c)
    have h2 : (val1 a c + 1) * 10 ^ d.length ≤ (a + 1) * 10 * 10 ^ d.length := Nat.mul_le_mul_right _ (by unfold val1; omega)
    rw [List.length_cons, Nat.pow_succ, Nat.mul_comm (10 ^ d.length) 10, ← Nat.mul_assoc]
    exact Nat.lt_of_lt_of_le h1 h2
theorem parse_dig (M : Nat) (hM : 10 ^ 18 ≤ M) : ∀ (d : List UInt8) (a : Nat), d.all dgt = true → (a + 1) * 10 ^ d.length ≤ 10 ^ 18 → Go.Lib.parseUintM M a d = .ok (d.foldl val1 a)
  | [], a, _, _ => rfl
  | c :: d, a, ha, hb => by
    rw [List.all_cons, Bool.and_eq_true] at ha
    have hc := of_decide_eq_true ha.1
    have hpow : 1 ≤ 10 ^ d.length := Nat.one_le_pow _ _ (by decide)
    rw [List.length_cons, Nat.pow_succ, Nat.mul_comm (10 ^ d.length) 10, ← Nat.mul_assoc] at hb
    have hb1 : (a + 1) * 10 * 1 ≤ (a + 1) * 10 * 10 ^ d.length := Nat.mul_le_mul_left _ hpow
    have h2 : (val1 a c + 1) * 10 ^ d.length ≤ (a + 1) * 10 * 10 ^ d.length := Nat.mul_le_mul_right _ (by unfold val1; omega)
    rw [Go.Lib.parseUintM, if_pos hc, if_neg (by omega), if_neg (by omega)]
    exact parse_dig M hM d (val1 a c) ha.2 (Nat.le_trans h2 hb)
/-- The number that a text is the numeral of. -/
def isNum (s : List UInt8) (v : Int) : Prop := s = itoa v ∧ (decDigits v.natAbs).length ≤ 18
theorem itoa_abs (v : Int) : itoa v = if v < 0 then 45 :: decDigits v.natAbs else decDigits v.natAbs := by
  unfold itoa
  split
  · rfl
  · rw [show v.toNat = v.natAbs by omega]
theorem dig_head (u : Nat) : ∃ c t, decDigits u = c :: t ∧ dgt c = true := by
  obtain ⟨_, h2, h3, _⟩ := dig_val u
  cases h : decDigits u with
  | nil => exact absurd h h3
  | cons c t =>
    rw [h, List.all_cons, Bool.and_eq_true] at h2
    exact ⟨c, t, rfl, h2.1⟩
theorem num_small {v : Int} (h : (decDigits v.natAbs).length ≤ 18) : v.natAbs < 10 ^ 18 := by
  obtain ⟨h1, h2, _, _⟩ := dig_val v.natAbs
  have := val_lt (decDigits v.natAbs) h2 0
  have e : (decDigits v.natAbs).foldl val1 0 = v.natAbs := h1
  rw [e, Nat.zero_add, Nat.one_mul] at this
  exact Nat.lt_of_lt_of_le this (Nat.pow_le_pow_right (by decide) h)
theorem num_inj {v v' : Int} (h : itoa v = itoa v') : v = v' := by
  rw [itoa_abs, itoa_abs] at h
  have key : ∀ u u' : Nat, decDigits u = decDigits u' → u = u' := fun u u' e => by rw [← (dig_val u).1, ← (dig_val u').1, e]
  have no : ∀ u u' : Nat, ¬ 45 :: decDigits u = decDigits u' := by
    intro u u' e
    obtain ⟨c, t, e2, hc⟩ := dig_head u'
    rw [e2] at e
    simp only [List.cons.injEq] at e
    rw [← e.1] at hc
    exact absurd hc (by decide)
  split at h <;> split at h
  · have := key _ _ (List.cons.inj h).2; omega
  · exact absurd h (no _ _)
  · exact absurd h.symm (no _ _)
  · have := key _ _ h; omega
theorem trim_itoa (v : Int) : Go.Lib.trimPrefix (itoa v) [45] = decDigits v.natAbs := by
  rw [itoa_abs]
  unfold Go.Lib.trimPrefix Go.Lib.hasPrefix
  split
  · simp
  · obtain ⟨c, t, e, hc⟩ := dig_head v.natAbs
    rw [e]
    have : c ≠ 45 := fun e => by rw [e] at hc; exact absurd hc (by decide)
    simp [List.isPrefixOf, this, Ne.symm this]
theorem parse_itoa {v : Int} (h : (decDigits v.natAbs).length ≤ 18) : Go.Lib.parseIntB 64 (itoa v) = .ok v := by
  obtain ⟨h1, h2, h3, _⟩ := dig_val v.natAbs
  have hs := num_small h
  obtain ⟨c, t, e, hc⟩ := dig_head v.natAbs
  have hc' := of_decide_eq_true hc
  have hp : Go.Lib.parseUintB 64 (decDigits v.natAbs) = .ok v.natAbs := by
    unfold Go.Lib.parseUintB
    rw [if_neg h3, parse_dig _ (by decide) _ 0 h2 (by rw [Nat.zero_add, Nat.one_mul]; exact Nat.pow_le_pow_right (by decide) h)]
    exact congrArg _ h1
  rw [itoa_abs]
  split
  · rename_i hv
    unfold Go.Lib.parseIntB
    dsimp only
    have e45 : (45 : UInt8).toNat = 45 := rfl
    rw [if_pos (Or.inr e45), hp]
    dsimp only
    rw [if_neg (by simp [e45]), if_neg (by rintro ⟨_, h⟩; omega), if_pos e45]
    congr 1; omega
  · rename_i hv
    unfold Go.Lib.parseIntB
    rw [e]
    dsimp only
    rw [e] at hp
    rw [if_neg (by omega), hp]
    dsimp only
    have : ¬ c.toNat = 45 := by omega
    rw [if_neg (by rintro ⟨_, h⟩; omega), if_neg (by rintro ⟨h, _⟩; exact this h), if_neg this]
    congr 1; omega
theorem readDec_num {s : List UInt8} {v : Int} (h : isNum s v) : readDec s = (v, true) := by
  obtain ⟨rfl, h⟩ := h
  unfold readDec
  rw [parse_itoa h]
  dsimp only
  rw [trim_itoa, if_neg (by simp; omega)]
theorem readDec_no {s : List UInt8} (h : ∀ v, ¬ isNum s v) : readDec s = (0, false) := by
  unfold readDec
  split
  · rename_i v hv
    split
    · rfl
    · rename_i hn
      simp only [not_or, Decidable.not_not, Nat.not_lt] at hn
      obtain ⟨h1, h2⟩ := hn
      refine absurd ⟨h2.symm, ?_⟩ (h v)
      rw [← h2, trim_itoa] at h1
      exact h1
  · rfl
end Go.Ab
/- The reference's numerals read back (own text). -/
set_option linter.unusedVariables false
set_option linter.unusedSimpArgs false
namespace Go.Ab
open Go.RowKit
open Go.Lib (itoa decDigits)
theorem u8_sub {c : UInt8} (h : dgt c = true) : w64 (IntKind.wrap .u8 ((c.toNat : Int) - 48)) = ((c.toNat - 48 : Nat) : Int) := by
  have hc := of_decide_eq_true h
  have e1 : IntKind.wrap .u8 ((c.toNat : Int) - 48) = ((c.toNat - 48 : Nat) : Int) := by
    simp only [IntKind.wrap, IntKind.signed, IntKind.bits]
    have : (((c.toNat : Int) - 48) % 2 ^ 8) = (c.toNat : Int) - 48 := Int.emod_eq_of_lt (by omega) (by omega)
    simp [this]
    try omega
  rw [e1, w64_id (by omega)]
theorem digit_eq (c : UInt8) : F_spec_l01Digit (c.toNat : Int) = some (dgt c) := by
  unfold F_spec_l01Digit dgt
  by_cases h : 48 ≤ c.toNat
  · rw [decide_eq_true (by omega), bif_t]
    congr 1
    by_cases h2 : c.toNat ≤ 57
    · rw [decide_eq_true (by omega), decide_eq_true (by omega)]
    · rw [decide_eq_false (by omega), decide_eq_false (by omega)]
  · rw [decide_eq_false (by omega), bif_f, decide_eq_false (by omega)]
theorem num_loop (s : List UInt8) (a : Nat) (ha : a ≤ 1) (hle : a ≤ s.length) (h18 : s.length - a ≤ 18) : F_spec_l01Number_j1 s (a : Int) = some (if (s.drop a).all dgt = true then (if a = 1 then -(val (s.drop a) : Int) else (val (s.drop a) : Int), true) else (0, false)) := by
  unfold F_spec_l01Number_j1
  suffices H : ∃ r, loop (F_spec_l01Number_l2 s (a : Int)) (0, (a : Int)) = some r ∧ r = (if (s.drop a).all dgt = true then (if a = 1 then -(val (s.drop a) : Int) else (val (s.drop a) : Int), true) else (0, false)) by
    obtain ⟨r, e, hr⟩ := H
    rw [e, hr]
  refine loop_mu (fun st => ∃ i : Nat, st.2 = (i : Int) ∧ a ≤ i ∧ i ≤ s.length ∧ st.1 = (val ((s.take i).drop a) : Int) ∧ ((s.take i).drop a).all dgt = true) (fun st => ((s.length : Int) - st.2).toNat) ⟨a, rfl, Nat.le_refl _, hle, ?_, ?_⟩ (by show ((s.length : Int) - (a : Int)).toNat < lim; unfold lim; omega) ?_
  · rw [List.drop_eq_nil_of_le (by rw [List.length_take]; omega)]; rfl
  · rw [List.drop_eq_nil_of_le (by rw [List.length_take]; omega)]; rfl
  · rintro ⟨n, j⟩ k ⟨i, h1, h2, h3, h4, h5⟩ hk
    dsimp only at h1 h4 hk
    subst h1 h4
    simp only [F_spec_l01Number_l2]
    by_cases hi : i < s.length
    · obtain ⟨c, hc⟩ := get_some hi
      have hst := sub_step hc h2
      rw [decide_eq_true (by omega), bif_t, ix_get hc, Option.bind_some, digit_eq, Option.bind_some]
      cases hd : dgt c
      · rw [Bool.not_false, bif_t]
        refine ⟨_, rfl, ?_⟩
        have hm : c ∈ s.drop a := by
          rw [List.mem_iff_getElem?]
          exact ⟨i - a, by rw [List.getElem?_drop, show a + (i - a) = i by omega]; exact hc⟩
        rw [if_neg]
        intro hall
        rw [List.all_eq_true] at hall
        rw [hall c hm] at hd
        cases hd
      · rw [Bool.not_true, bif_f, Option.bind_some, u8_sub hd]
        have hl := val_lt _ h5 0
        rw [Nat.zero_add, Nat.one_mul] at hl
        have hl2 : 10 ^ ((s.take i).drop a).length ≤ 10 ^ 17 := Nat.pow_le_pow_right (by decide) (by rw [List.length_drop, List.length_take]; omega)
        have hv : val ((s.take i).drop a) < 10 ^ 17 := Nat.lt_of_lt_of_le hl hl2
        have hcb : c.toNat < 256 := UInt8.toNat_lt c
        have e1 : w64 (10 * (val ((s.take i).drop a) : Int)) = 10 * (val ((s.take i).drop a) : Int) := w64_id (by omega)
        rw [e1, w64_id (by omega), w64_succ (by omega)]
        refine hk _ ⟨i + 1, rfl, by omega, by omega, ?_, ?_⟩ (by dsimp only; omega)
        · dsimp only
          rw [hst, val_snoc]; omega
        · rw [hst, List.all_append, h5]; simp [hd]
    · have : i = s.length := by omega
      subst this
      rw [take_all (Nat.le_refl _)] at h5 ⊢
      rw [decide_eq_false (by omega), bif_f, if_pos h5]
      have hl := val_lt _ h5 0
      rw [Nat.zero_add, Nat.one_mul] at hl
      have hl2 : 10 ^ (s.drop a).length ≤ 10 ^ 18 := Nat.pow_le_pow_right (by decide) (by rw [List.length_drop]; omega)
      have hv : val (s.drop a) < 10 ^ 18 := Nat.lt_of_lt_of_le hl hl2
      by_cases h1 : a = 1
      · subst h1
        rw [show decide (((1 : Nat) : Int) = (1 : Int)) = true from rfl, bif_t, w64_id (by omega), if_pos rfl]
        exact ⟨_, rfl, by simp⟩
      · rw [decide_eq_false (by omega), bif_f, if_neg h1]
        exact ⟨_, rfl, rfl⟩
/-- What a text reads as, its sign taken off. -/
def numAt (s : List UInt8) (a : Nat) : Int × Bool := if s.drop a = [] ∨ 18 < (s.drop a).length ∨ ((s.drop a).head? = some 48 ∧ 1 < s.length) ∨ ¬ (s.drop a).all dgt = true then (0, false) else (if a = 1 then -(val (s.drop a) : Int) else (val (s.drop a) : Int), true)
theorem j0_eq (s : List UInt8) (a : Nat) (ha : a ≤ 1) (hle : a ≤ s.length) (hs : s.length ≤ 9223372036854775806) : F_spec_l01Number_j0 s (a : Int) = some (numAt s a) := by
  unfold F_spec_l01Number_j0 numAt
  by_cases h0 : s.length = a
  · rw [decide_eq_true (by omega), bif_t, if_pos (Or.inl (List.drop_eq_nil_of_le (by omega)))]
  have hne : s.drop a ≠ [] := by intro e; have := congrArg List.length e; rw [List.length_drop] at this; simp at this; omega
  rw [decide_eq_false (by omega), bif_f, w64_id (by omega)]
  by_cases h18 : 18 < s.length - a
  · rw [decide_eq_true (by omega), bif_t, if_pos (Or.inr (Or.inl (by rw [List.length_drop]; omega)))]
  rw [decide_eq_false (by omega), bif_f]
  obtain ⟨x, hx⟩ := get_some (L := s) (n := a) (by omega)
  have hh : (s.drop a).head? = some x := by rw [drop_cons hx]; rfl
  rw [ix_get hx, Option.bind_some, num_loop s a ha hle (by omega)]
  have b48 : ((x.toNat : Int) = 48) ↔ x = 48 := by
    constructor
    · intro h; exact UInt8.toNat_inj.1 (by show x.toNat = 48; omega)
    · rintro rfl; rfl
  have fin : ∀ hn : ¬ ((s.drop a).head? = some 48 ∧ 1 < s.length), some (if (s.drop a).all dgt = true then (if a = 1 then -(val (s.drop a) : Int) else (val (s.drop a) : Int), true) else ((0 : Int), false)) = some (if s.drop a = [] ∨ 18 < (s.drop a).length ∨ ((s.drop a).head? = some 48 ∧ 1 < s.length) ∨ ¬ (s.drop a).all dgt = true then (0, false) else (if a = 1 then -(val (s.drop a) : Int) else (val (s.drop a) : Int), true)) := by
    intro hn
    congr 1
    by_cases hall : (s.drop a).all dgt = true
    · rw [if_pos hall]
      refine (if_neg ?_).symm
      rintro (h | h | h | h)
      · exact hne h
      · rw [List.length_drop] at h; omega
      · exact hn h
      · exact h hall
    · rw [if_neg hall]
      exact (if_pos (Or.inr (Or.inr (Or.inr hall)))).symm
  by_cases hx48 : x = 48
  · rw [decide_eq_true (b48.2 hx48), bif_t]
    by_cases h1 : 1 < s.length
    · rw [decide_eq_true (by omega), bif_t, if_pos (Or.inr (Or.inr (Or.inl ⟨by rw [hh, hx48], h1⟩)))]
    · rw [decide_eq_false (by omega), bif_f]
      exact fin (fun h => h1 h.2)
  · rw [decide_eq_false (fun e => hx48 (b48.1 e)), bif_f]
    exact fin (fun h => hx48 (by rw [hh] at h; exact Option.some.inj h.1))
theorem numAt_eq (s : List UInt8) (a : Nat) (h : a = if s.head? = some 45 then 1 else 0) : numAt s a = readDec s := by
  have back : ∀ v, isNum s v → ¬ (s.drop a = [] ∨ 18 < (s.drop a).length ∨ ((s.drop a).head? = some 48 ∧ 1 < s.length) ∨ ¬ (s.drop a).all dgt = true) ∧ (if a = 1 then -(val (s.drop a) : Int) else (val (s.drop a) : Int)) = v := by
    rintro v ⟨hs, hl⟩
    obtain ⟨q1, q2, q3, q4⟩ := dig_val v.natAbs
    rw [itoa_abs] at hs
    by_cases hv : v < 0
    · rw [if_pos hv] at hs
      have ha : a = 1 := by rw [h, hs]; rfl
      subst ha
      have hd : s.drop 1 = decDigits v.natAbs := by rw [hs]; rfl
      rw [hd, q1]
      refine ⟨?_, by rw [if_pos rfl]; omega⟩
      rintro (e | e | e | e)
      · exact q3 e
      · omega
      · exact q4 (by omega) e.1
      · exact e q2
    · rw [if_neg hv] at hs
      have ha : a = 0 := by
        rw [h, if_neg]
        rw [hs]
        obtain ⟨c, t, e, hc⟩ := dig_head v.natAbs
        rw [e]
        intro e2
        simp only [List.head?_cons, Option.some.injEq] at e2
        rw [e2] at hc
        exact absurd hc (by decide)
      subst ha
      rw [List.drop_zero]
      refine ⟨?_, by rw [hs, q1, if_neg (by decide)]; omega⟩
      rintro (e | e | e | e)
      · rw [hs] at e; exact q3 e
      · rw [hs] at e; omega
      · obtain ⟨e1, e2⟩ := e
        rw [hs] at e1 e2
        by_cases hu : v.natAbs = 0
        · rw [hu, decDigits, dif_pos (by decide)] at e2; simp at e2
        · exact q4 hu e1
      · rw [hs] at e; exact e q2
  unfold numAt
  by_cases hc : s.drop a = [] ∨ 18 < (s.drop a).length ∨ ((s.drop a).head? = some 48 ∧ 1 < s.length) ∨ ¬ (s.drop a).all dgt = true
  · rw [if_pos hc, readDec_no (fun v hv => (back v hv).1 hc)]
  · rw [if_neg hc]
    simp only [not_or, Decidable.not_not] at hc
    obtain ⟨c1, c2, c3, c4⟩ := hc
    have hdig : decDigits (val (s.drop a)) = s.drop a := val_dig _ _ rfl c4 c1 (by
      intro e
      have hs1 : s.length ≤ 1 := by
        apply Decidable.byContradiction
        intro hn
        exact c3 ⟨e, by omega⟩
      have : 1 ≤ (s.drop a).length := List.length_pos_iff.2 c1
      rw [List.length_drop] at this ⊢
      omega)
    by_cases hh : s.head? = some 45
    · have ha : a = 1 := by rw [h, if_pos hh]
      subst ha
      obtain ⟨t, rfl⟩ : ∃ t, s = 45 :: t := by
        cases s with
        | nil => cases hh
        | cons x t => simp only [List.head?_cons, Option.some.injEq] at hh; exact ⟨t, by rw [hh]⟩
      have hd1 : (45 :: t).drop 1 = t := rfl
      rw [hd1] at c1 c2 c3 c4 hdig ⊢
      have hpos : val t ≠ 0 := by
        intro e
        have e0 : decDigits 0 = [48] := by rw [decDigits, dif_pos (by decide)]; rfl
        rw [e, e0] at hdig
        rw [← hdig] at c3
        exact c3 ⟨rfl, by simp⟩
      rw [if_pos rfl]
      refine (readDec_num ⟨?_, ?_⟩).symm
      · rw [itoa_abs, if_pos (by omega), show (-(val t : Int)).natAbs = val t by omega, hdig]
      · rw [show (-(val t : Int)).natAbs = val t by omega, hdig]; omega
    · have ha : a = 0 := by rw [h, if_neg hh]
      subst ha
      rw [List.drop_zero] at *
      rw [if_neg (by decide)]
      refine (readDec_num ⟨?_, ?_⟩).symm
      · rw [itoa_abs, if_neg (by omega), show ((val s : Int)).natAbs = val s by omega, hdig]
      · rw [show ((val s : Int)).natAbs = val s by omega, hdig]; omega
theorem Number_eq (s : List UInt8) (hs : s.length ≤ 9223372036854775806) : F_spec_l01Number s = some (readDec s) := by
  unfold F_spec_l01Number
  cases s with
  | nil =>
    rw [decide_eq_false (by simp), bif_f]
    exact (j0_eq [] 0 (by decide) (by simp) hs).trans (by rw [numAt_eq [] 0 rfl])
  | cons x t =>
    rw [decide_eq_true (by rw [List.length_cons]; omega), bif_t, ix_zero, Option.bind_some]
    have b45 : ((x.toNat : Int) = 45) ↔ x = 45 := by
      constructor
      · intro h; exact UInt8.toNat_inj.1 (by show x.toNat = 45; omega)
      · rintro rfl; rfl
    by_cases hx : x = 45
    · rw [decide_eq_true (b45.2 hx), bif_t]
      exact (j0_eq (x :: t) 1 (by decide) (by rw [List.length_cons]; omega) hs).trans (by rw [numAt_eq _ 1 (by rw [hx]; rfl)])
    · rw [decide_eq_false (fun e => hx (b45.1 e)), bif_f]
      exact (j0_eq (x :: t) 0 (by decide) (by omega) hs).trans (by rw [numAt_eq _ 0 (by rw [if_neg]; simpa using hx)])
end Go.Ab
/- Persons read: what stands behind the loops (own text). -/
set_option linter.unusedVariables false
set_option linter.unusedSimpArgs false
namespace Go.Ab
open Go.RowKit
open Go.Lib (itoa decDigits join)
theorem spl_count (c : UInt8) : ∀ s : List UInt8, (spl c s).length = s.count c + 1
  | [] => rfl
  | x :: s => by
    have ih := spl_count c s
    have ha : ∀ l : List (List UInt8), l ≠ [] → (ahead [x] l).length = l.length := by
      intro l hl
      cases l with
      | nil => exact absurd rfl hl
      | cons => rfl
    by_cases hx : x = c
    · subst hx; simp only [spl, if_true, List.length_cons, List.count_cons_self, ih]
    · simp only [spl, hx, if_false]
      rw [ha _ (spl_ne c s), ih, List.count_cons_of_ne hx]
theorem splN_ne (c : UInt8) : ∀ (k : Nat) (s : List UInt8), splN c k s ≠ []
  | 0, s => by simp [splN]
  | k + 1, [] => by simp [splN]
  | k + 1, x :: s => by
    simp only [splN]
    split
    · simp
    · exact ahead_ne _ _
theorem splN_count (c : UInt8) : ∀ (s : List UInt8) (k : Nat), (splN c k s).length = min k (s.count c) + 1
  | s, 0 => by simp [splN]
  | [], k + 1 => by simp [splN]
  | x :: s, k + 1 => by
    have ha : ∀ l : List (List UInt8), l ≠ [] → (ahead [x] l).length = l.length := by
      intro l hl
      cases l with
      | nil => exact absurd rfl hl
      | cons => rfl
    by_cases hx : x = c
    · subst hx
      simp only [splN, if_true, List.length_cons, splN_count x s k, List.count_cons_self]
      omega
    · simp only [splN, hx, if_false]
      rw [ha _ (splN_ne c _ s), splN_count c s (k + 1), List.count_cons_of_ne hx]
theorem splN_small (c : UInt8) : ∀ (s : List UInt8) (k : Nat), ∀ x ∈ splN c k s, x.length ≤ s.length
  | [], k, x, hx => by cases k <;> simp [splN] at hx <;> simp [hx]
  | y :: s, 0, x, hx => by simp [splN] at hx; simp [hx]
  | y :: s, k + 1, x, hx => by
    simp only [splN] at hx
    split at hx
    · rcases List.mem_cons.1 hx with rfl | hx
      · simp
      · have := splN_small c s k x hx; rw [List.length_cons]; omega
    · cases h : splN c (k + 1) s with
      | nil => exact absurd h (splN_ne c (k + 1) s)
      | cons z t =>
        rw [h] at hx
        simp only [ahead] at hx
        rcases List.mem_cons.1 hx with rfl | hx
        · have := splN_small c s (k + 1) z (by rw [h]; simp)
          simp only [List.length_append, List.length_cons, List.length_nil]; omega
        · have := splN_small c s (k + 1) x (by rw [h]; simp [hx])
          rw [List.length_cons]; omega
theorem join_ahead (p sep : List UInt8) (l : List (List UInt8)) (h : l ≠ []) : join (ahead p l) sep = p ++ join l sep := by
  cases l with
  | nil => exact absurd rfl h
  | cons x t => simp only [ahead, Go.Lib.join_cons, List.append_assoc]
theorem join_spl (c : UInt8) : ∀ s : List UInt8, join (spl c s) [c] = s
  | [] => rfl
  | x :: s => by
    have ih := join_spl c s
    by_cases hx : x = c
    · subst hx
      simp only [spl, if_true]
      cases h : spl x s with
      | nil => exact absurd h (spl_ne x s)
      | cons y t =>
        rw [h, Go.Lib.join_cons] at ih
        rw [Go.Lib.join_cons]
        simp only [Go.Lib.joinTail, List.map_cons, List.flatten_cons, List.nil_append, List.cons_append, List.singleton_append] at ih ⊢
        rw [← ih]
    · simp only [spl, hx, if_false]
      rw [join_ahead _ _ _ (spl_ne c s), ih]; rfl
theorem readDec_back {p : List UInt8} (h : (readDec p).2 = true) : itoa (readDec p).1 = p := by
  by_cases hn : ∃ v, isNum p v
  · obtain ⟨v, hv⟩ := hn
    rw [readDec_num hv]; exact hv.1.symm
  · rw [readDec_no (fun v hv => hn ⟨v, hv⟩)] at h; cases h
theorem readDec_rng (p : List UInt8) : -9223372036854775808 ≤ (readDec p).1 ∧ (readDec p).1 ≤ 9223372036854775807 := by
  by_cases hn : ∃ v, isNum p v
  · obtain ⟨v, hv⟩ := hn
    rw [readDec_num hv]
    have := num_small hv.2
    dsimp only
    omega
  · rw [readDec_no (fun v hv => hn ⟨v, hv⟩)]; decide
/-- One person read. -/
def onePers (x : List UInt8) : Option TPerson := match spl 32 x with
  | a :: b :: t => if (readDec b).2 = true then some (a, (readDec b).1, t) else none
  | _ => none
theorem one_back {x : List UInt8} {p : TPerson} (h : onePers x = some p) : persT p = x := by
  unfold onePers at h
  have hj := join_spl 32 x
  split at h
  · rename_i a b t e
    split at h
    · rename_i hb
      simp only [Option.some.injEq] at h
      subst h
      unfold persT
      dsimp only
      rw [readDec_back hb]
      rw [e] at hj
      exact hj
    · cases h
  · cases h
theorem one_len {x : List UInt8} {p : TPerson} (h : onePers x = some p) : p.1.length ≤ x.length ∧ (∀ t ∈ p.2.2, t.length ≤ x.length) ∧ p.2.2.length ≤ x.length ∧ (-9223372036854775808 ≤ p.2.1 ∧ p.2.1 ≤ 9223372036854775807) := by
  have hs := fun y hy => (spl_sum 32 x y hy).1
  have hl := spl_len 32 x
  unfold onePers at h
  split at h
  · rename_i a b t e
    rw [e] at hs hl
    split at h
    · simp only [Option.some.injEq] at h
      subst h
      refine ⟨hs a (by simp), fun t ht => hs t (by simp [ht]), ?_, readDec_rng b⟩
      simp only [List.length_cons] at hl
      dsimp only
      omega
    · cases h
  · cases h
/-- All of them, if each reads. -/
def allPers : List (List UInt8) → Option (List TPerson)
  | [] => some []
  | x :: L => match onePers x, allPers L with
    | some p, some A => some (p :: A)
    | _, _ => none
theorem all_snoc {L : List (List UInt8)} {x : List UInt8} : allPers (L ++ [x]) = (match allPers L, onePers x with
    | some A, some p => some (A ++ [p])
    | _, _ => none) := by
  induction L with
  | nil => simp only [List.nil_append, allPers]; cases onePers x <;> rfl
  | cons y L ih =>
    simp only [List.cons_append, allPers, ih]
    cases onePers y <;> cases allPers L <;> cases onePers x <;> rfl
theorem all_back : ∀ {L : List (List UInt8)} {A : List TPerson}, allPers L = some A → A.map persT = L ∧ A.length = L.length
  | [], A, h => by simp only [allPers, Option.some.injEq] at h; subst h; exact ⟨rfl, rfl⟩
  | x :: L, A, h => by
    simp only [allPers] at h
    split at h
    · rename_i p B hp hB
      simp only [Option.some.injEq] at h
      subst h
      obtain ⟨h1, h2⟩ := all_back hB
      exact ⟨by rw [List.map_cons, one_back hp, h1], by simp [h2]⟩
    · cases h
theorem all_none {L : List (List UInt8)} {x : List UInt8} (hx : x ∈ L) (h : onePers x = none) : allPers L = none := by
  induction L with
  | nil => cases hx
  | cons y L ih =>
    simp only [allPers]
    rcases List.mem_cons.1 hx with rfl | hx
    · rw [h]
    · rw [ih hx]; cases onePers y <;> rfl
theorem all_ok {n : Nat} : ∀ {L : List (List UInt8)} {A : List TPerson}, allPers L = some A → (∀ x ∈ L, x.length ≤ n) → ∀ p ∈ A, p.1.length ≤ n ∧ (∀ t ∈ p.2.2, t.length ≤ n) ∧ p.2.2.length ≤ n ∧ (-9223372036854775808 ≤ p.2.1 ∧ p.2.1 ≤ 9223372036854775807)
  | [], A, h, _, p, hp => by simp only [allPers, Option.some.injEq] at h; subst h; cases hp
  | x :: L, A, h, hn, p, hp => by
    simp only [allPers] at h
    split at h
    · rename_i q B hq hB
      simp only [Option.some.injEq] at h
      subst h
      have hxn := hn x (by simp)
      rcases List.mem_cons.1 hp with rfl | hp
      · obtain ⟨h1, h2, h3, h4⟩ := one_len hq
        exact ⟨by omega, fun t ht => by have := h2 t ht; omega, by omega, h4⟩
      · exact all_ok hB (fun y hy => hn y (by simp [hy])) p hp
    · cases h
end Go.Ab
/- ReadPersons (own text). -/
set_option linter.unusedVariables false
set_option linter.unusedSimpArgs false
namespace Go.Ab
open Go.RowKit
open Go.Lib (itoa decDigits join)
theorem CloneS_eq {A : List (List UInt8)} (h : room A.length 16) : F_slices_Clone_Sstring_string A = some A := by
  unfold F_slices_Clone_Sstring_string
  have e : F_slices_Clone_Sstring_string_j0 A = some A := by unfold F_slices_Clone_Sstring_string_j0; rw [need_true h]
  rw [e, bif_dec]
  split
  · rename_i h0
    have : A = [] := List.eq_nil_of_length_eq_zero (by omega)
    subst this
    exact both_eq rfl
  · rfl
theorem sub_tail {α : Type} (A : List α) (n : Nat) : sub A (n : Int) (A.length : Int) = A.drop n := by
  rw [sub_nat, List.take_of_length_le (Nat.le_refl _)]
/-- Are these persons valid? -/
noncomputable def okP (A : List TPerson) : Bool := (F_spec_l30Ok A).getD false
noncomputable def fin (o : Option (List TPerson)) : List TPerson × Bool := match o with
  | some A => if okP A = true then (A, true) else ([], false)
  | none => ([], false)
theorem pers_ok {n : Nat} (hn : n ≤ 2000000) {L : List (List UInt8)} {A : List TPerson} (h : allPers L = some A) (hx : ∀ x ∈ L, x.length ≤ n) (hl : L.length ≤ 2000000) : OkPersons A := by
  have ha := all_ok h hx
  have hb := (all_back h).2
  refine ⟨by omega, fun p hp => ?_⟩
  obtain ⟨h1, h2, h3, h4⟩ := ha p hp
  exact ⟨by unfold OkS; omega, h4, by omega, fun t ht => by have := h2 t ht; unfold OkS; omega⟩
theorem read_loop {ρ : Type} {n : Nat} (hn : n ≤ 1048576) (L : List (List UInt8)) (hL : L.length ≤ 1048577) (hx : ∀ x ∈ L, x.length ≤ n) {body : (Int × List TPerson → Option ρ) → Int × List TPerson → Option ρ} (RES : Option (List TPerson) → ρ)
    (more : ∀ (i : Nat) x A k, L[i]? = some x → A.length = i → i < 1048577 → body k ((i : Int), A) = match onePers x with
      | some p => k (((i + 1 : Nat) : Int), A ++ [p])
      | none => some (RES none))
    (done : ∀ A k, allPers L = some A → body k ((L.length : Int), A) = some (RES (some A))) : loop body (0, []) = some (RES (allPers L)) := by
  suffices H : ∃ r, loop body (0, []) = some r ∧ r = RES (allPers L) by
    obtain ⟨r, e, hr⟩ := H
    rw [e, hr]
  refine loop_ex (L := L) (fun i st => st.1 = (i : Int) ∧ allPers (L.take i) = some st.2) (by omega) ⟨rfl, rfl⟩ ?_ ?_
  · rintro i ⟨j, A⟩ k x hxi hi ⟨rfl, hA⟩ hk
    dsimp only at hA
    have hlt := get_lt hxi
    have hlen : A.length = i := by rw [(all_back hA).2, List.length_take]; omega
    rw [more i x A k hxi hlen (by omega)]
    cases hp : onePers x with
    | none =>
      rw [all_none (get_mem hxi) hp]
      exact ⟨_, rfl, rfl⟩
    | some p =>
      refine hk _ ⟨rfl, ?_⟩
      dsimp only
      rw [take_succ hxi, all_snoc, hA, hp]
  · rintro ⟨j, A⟩ k ⟨rfl, hA⟩
    dsimp only at hA
    rw [take_all (Nat.le_refl _)] at hA
    rw [done A k hA, hA]
    exact ⟨_, rfl, rfl⟩
theorem one_cases (x : List UInt8) : (∃ a b t, spl 32 x = a :: b :: t ∧ onePers x = if (readDec b).2 = true then some (a, (readDec b).1, t) else none) ∨ ((spl 32 x).length < 2 ∧ onePers x = none) := by
  unfold onePers
  cases h : spl 32 x with
  | nil => exact .inr ⟨by simp, rfl⟩
  | cons a t =>
    cases t with
    | nil => exact .inr ⟨by simp, rfl⟩
    | cons b t => exact .inl ⟨a, b, t, rfl, rfl⟩
theorem spec_loop (L : List (List UInt8)) (hL : L.length ≤ 1048577) (hx : ∀ x ∈ L, x.length ≤ 1048576) : loop (F_spec_l30Read_l0 L) (0, []) = some (fin (allPers L)) := by
  refine read_loop (n := 1048576) (Nat.le_refl _) L hL hx fin ?_ ?_
  · intro i x A k hxi hA hi
    have hxl := hx x (get_mem hxi)
    have hsp : F_spec_l01Split x 32 = some (spl 32 x) := Split_eq x 32 (by omega)
    have hsl := spl_len 32 x
    simp only [F_spec_l30Read_l0, int_lt (get_lt hxi), ix_get hxi, Option.bind_some, bif_t, hsp]
    rcases one_cases x with ⟨a, b, t, e, h1⟩ | ⟨h2, h1⟩
    · have hbl := (spl_sum 32 x b (by rw [e]; simp)).1
      rw [e] at hsl ⊢
      rw [h1, decide_eq_false (by simp only [List.length_cons]; omega), bif_f]
      have i1 : ix (a :: b :: t) 1 = some b := rfl
      have i0 : ix (a :: b :: t) 0 = some a := rfl
      rw [i1, Option.bind_some, Number_eq b (by omega), Option.bind_some]
      cases hb : (readDec b).2
      · rw [Bool.not_false, bif_t, if_neg (by decide)]; rfl
      · have hs : sub (a :: b :: t) (2 : Int) ((a :: b :: t).length : Int) = t := sub_tail (a :: b :: t) 2
        simp only [List.length_cons] at hsl
        rw [Bool.not_true, bif_f, if_pos rfl, i0, Option.bind_some, need_true (by simp only [List.length_cons]; omega), hs, need_true (show room t.length 16 from ⟨by omega, by omega⟩), need_true (p := room (A.length + [(a, (readDec b).1, t)].length) 48) (show room (A.length + 1) 48 from ⟨by omega, by omega⟩), w64_succ (by omega)]
    · rw [h1, decide_eq_true (by omega), bif_t]; rfl
  · intro A k hA
    obtain ⟨r, h1, _⟩ := valid_eq (pers_ok (by omega) hA hx (by omega))
    simp only [F_spec_l30Read_l0, int_lt_self, bif_f, h1, Option.bind_some]
    simp only [fin, okP, h1, Option.getD_some]
    cases r <;> rfl
/-- What the text of persons tells. -/
theorem impl_text {L : List (List UInt8)} {A : List TPerson} (h : allPers L = some A) (hL : L ≠ []) (hx : ∀ x ∈ L, x.length ≤ 1048576) (hl : L.length ≤ 1048577) : F_impl_PersonsText A = some (if okP A = true then join L [47] else []) ∧ (okP A = true → A.length ≤ 24) := by
  obtain ⟨r, h1, h2, h3⟩ := valid_eq (pers_ok (by omega) h hx (by omega))
  unfold F_impl_PersonsText okP
  rw [h1, h2, Option.bind_some]
  cases r
  · exact ⟨rfl, fun h => by cases h⟩
  · have hV := h3 rfl
    rw [Bool.not_true, bif_f, iPT_eq hV.len (pb_of hV), (all_back h).1]
    exact ⟨rfl, fun _ => hV.len⟩
theorem impl_loop (s : List UInt8) (L : List (List UInt8)) (hne : L ≠ []) (hL : L.length ≤ 1048577) (hx : ∀ x ∈ L, x.length ≤ 1048576) (hs : s ≠ []) (hj : L.length ≤ 24 → join L [47] = s) : loop (F_impl_ReadPersons_l0 s L) (0, []) = some (fin (allPers L)) := by
  refine read_loop (n := 1048576) (Nat.le_refl _) L hL hx fin ?_ ?_
  · intro i x A k hxi hA hi
    have hxl := hx x (get_mem hxi)
    have hsp : F_split x [32] = some (spl 32 x) := F_split_eq 32 (by omega)
    have hsl := spl_len 32 x
    simp only [F_impl_ReadPersons_l0, int_lt (get_lt hxi), ix_get hxi, Option.bind_some, bif_t, hsp]
    rcases one_cases x with ⟨a, b, t, e, h1⟩ | ⟨h2, h1⟩
    · have hbl := (spl_sum 32 x b (by rw [e]; simp)).1
      rw [e] at hsl ⊢
      rw [h1, decide_eq_false (by simp only [List.length_cons]; omega), bif_f]
      have i1 : ix (a :: b :: t) 1 = some b := rfl
      have i0 : ix (a :: b :: t) 0 = some a := rfl
      have hrd : F_readDec b = some (readDec b) := by unfold F_readDec; exact need_true (by omega)
      rw [i1, Option.bind_some, hrd, Option.bind_some]
      cases hb : (readDec b).2
      · rw [Bool.not_false, bif_t, if_neg (by decide)]; rfl
      · have hs : sub (a :: b :: t) (2 : Int) ((a :: b :: t).length : Int) = t := sub_tail (a :: b :: t) 2
        simp only [List.length_cons] at hsl
        rw [Bool.not_true, bif_f, if_pos rfl, i0, Option.bind_some, need_true (by simp only [List.length_cons]; omega), hs, CloneS_eq (show room t.length 16 from ⟨by omega, by omega⟩), Option.bind_some, need_true (p := room (A.length + [(a, (readDec b).1, t)].length) 48) (show room (A.length + 1) 48 from ⟨by omega, by omega⟩), w64_succ (by omega)]
    · rw [h1, decide_eq_true (by omega), bif_t]; rfl
  · intro A k hA
    obtain ⟨ht, h24⟩ := impl_text hA hne hx hL
    simp only [F_impl_ReadPersons_l0, int_lt_self, bif_f, ht, Option.bind_some]
    unfold fin
    by_cases ho : okP A = true
    · have := h24 ho
      rw [(all_back hA).2] at this
      simp only [ho, if_true]
      have e := hj this
      simp only [e, ne_eq, not_true_eq_false, decide_false, bif_f]
    · simp only [ho, if_false, Bool.false_eq_true]
      have e : ([] : List UInt8) ≠ s := fun e => hs e.symm
      rw [decide_eq_true e, bif_t]
theorem core_ReadPersons (a0 : List UInt8) (o0 : OkS a0) (s0 : SmS a0) : ∃ w, F_spec_ReadPersons a0 = some w ∧ F_impl_ReadPersons a0 = some w ∧ (SmL CtPerson) w.1 := by
  have hs : a0.length ≤ 1048576 := by have : (a0.length : Int) ≤ 1048576 := s0; omega
  unfold F_spec_ReadPersons F_spec_l30Read F_impl_ReadPersons
  by_cases h0 : a0 = []
  · rw [decide_eq_true h0, bif_t, bif_t]
    exact ⟨_, rfl, rfl, by show ((0 : Nat) : Int) ≤ 1048576; omega, fun a ha => by cases ha⟩
  rw [decide_eq_false h0, bif_f, bif_f]
  have hsp : F_spec_l01Split a0 47 = some (spl 47 a0) := Split_eq a0 47 (by omega)
  have hsN : F_splitN a0 [47] 25 = some (splN 47 (min 25 (a0.length + 1) - 1) a0) := F_splitN_eq (n := 25) 47 (by omega) (by decide) (by decide)
  rw [hsp, hsN, Option.bind_some, Option.bind_some]
  have hcnt : a0.count 47 ≤ a0.length := List.count_le_length
  have hl2 := spl_count 47 a0
  have hlN := splN_count 47 a0 (min 25 (a0.length + 1) - 1)
  have hm : ∀ x ∈ spl 47 a0, x.length ≤ 1048576 := fun x hx => by have := (spl_sum 47 a0 x hx).1; omega
  have hmN : ∀ x ∈ splN 47 (min 25 (a0.length + 1) - 1) a0, x.length ≤ 1048576 := fun x hx => by have := splN_small 47 a0 _ x hx; omega
  have hneN := splN_ne 47 (min 25 (a0.length + 1) - 1) a0
  have hS := spec_loop (spl 47 a0) (by omega) hm
  have hfull : a0.count 47 ≤ 24 → splN 47 (min 25 (a0.length + 1) - 1) a0 = spl 47 a0 := fun h => splN_all 47 a0 _ (by omega)
  have hI := impl_loop a0 (splN 47 (min 25 (a0.length + 1) - 1) a0) hneN (by omega) hmN h0 (fun h => by rw [hfull (by omega)]; exact join_spl 47 a0)
  rw [hS, hI, Option.bind_some]
  have big : ∀ {L : List (List UInt8)}, L.length ≤ 1048577 → 24 < L.length → (∀ x ∈ L, x.length ≤ 1048576) → fin (allPers L) = ([], false) := by
    intro L hL h24 hx
    cases hA : allPers L with
    | none => rfl
    | some A =>
      obtain ⟨r, h1, h2⟩ := l30Ok_some (pers_ok (by omega) hA hx (by omega))
      have := h2 (by rw [(all_back hA).2]; exact h24)
      simp only [fin, okP, h1, this, Option.getD_some, Bool.false_eq_true, if_false]
  have eq : fin (allPers (splN 47 (min 25 (a0.length + 1) - 1) a0)) = fin (allPers (spl 47 a0)) := by
    by_cases h : a0.count 47 ≤ 24
    · rw [hfull h]
    · rw [big (by omega) (by omega) hmN, big (by omega) (by omega) hm]
  refine ⟨fin (allPers (spl 47 a0)), rfl, by rw [eq], ?_⟩
  cases hA : allPers (spl 47 a0) with
  | none => exact ⟨by show ((0 : Nat) : Int) ≤ 1048576; omega, fun a ha => by cases ha⟩
  | some A =>
    unfold fin
    by_cases ho : okP A = true
    · simp only [ho, if_true]
      obtain ⟨_, h24⟩ := impl_text hA (spl_ne 47 a0) hm (by omega)
      have := h24 ho
      refine ⟨by show (A.length : Int) ≤ 1048576; omega, fun p hp => ?_⟩
      have := (all_ok hA hm p hp).2.2.1
      exact ⟨trivial, trivial, by show (p.2.2.length : Int) ≤ 1048576; omega, fun _ _ => trivial⟩
    · simp only [ho, if_false, Bool.false_eq_true]
      exact ⟨by show ((0 : Nat) : Int) ≤ 1048576; omega, fun a ha => by cases ha⟩
end Go.Ab
