import Derived.Test.YtlboickhkhbffaaPWk1
set_option linter.unusedVariables false
set_option linter.unusedSimpArgs false
namespace Go.Ab
open Go.RowKit
theorem less_eq (x y : Str) : Op.bytesLess x y = decide (x < y) := Go.Proofs.bytesLess_eq x y
def cmpI (a b : Int) : Int := if a < b then -1 else if b < a then 1 else 0
def cmpT (a b : Str) : Int := if a < b then -1 else if a = b then 0 else 1
theorem cmpI_eq (a b : Int) : F_cmp_Compare_int64 a b = some (cmpI a b) := by
 unfold F_cmp_Compare_int64 F_cmp_isNaN_int64 cmpI
 simp only [ne_eq, not_true_eq_false, decide_false, Option.bind_some, bif_f, bif_dec]
 split
 ·rfl
 ·split <;> rfl
theorem cmpT_eq (a b : Str) : F_cmp_Compare_string a b = some (cmpT a b) := by
 unfold F_cmp_Compare_string F_cmp_isNaN_string cmpT
 simp only [ne_eq, not_true_eq_false, decide_false, Option.bind_some, bif_f, less_eq]
 by_cases h : a < b
 ·simp [h]
 ·by_cases h2 : a = b
  ·subst h2; simp [h]
  ·simp [h, h2]
def or3 (x y z : Int) : Int := if x ≠ 0 then x else if y ≠ 0 then y else z
theorem Or3_eq (x y z : Int) : F_cmp_Or_int [x, y, z] = some (or3 x y z) := by
 unfold F_cmp_Or_int
 have := loop_sfx (body := F_cmp_Or_int_l0 [x, y, z]) (L := [x, y, z]) (fun t => (t.find? (fun z => decide (z ≠ 0))).getD 0) (by simp) ?_ ?_
 ·rw [this]
  unfold or3
  by_cases h : x = 0 <;> by_cases h2 : y = 0 <;> by_cases h3 : z = 0 <;> simp [List.find?, h, h2, h3]
 ·intro i k a t ha hi hk
  simp only [F_cmp_Or_int_l0, int_lt (get_lt ha), bif_t, ix_get ha, Option.bind_some, w64_succ hi, bif_dec, hk]
  by_cases h : a = 0 <;> simp [List.find?, h]
 ·intro k
  simp only [F_cmp_Or_int_l0, int_lt_self, bif_f]
  rfl
theorem loop_adjP {α : Type} {A : List α} {one : α → Bool} {bef : α → α → Bool} {fin : Bool} {body : (Int → Option Bool) → Int → Option Bool} (hA : A.length ≤ 9223372036854775807)
  (first : ∀ k a, A[0]? = some a → body k 0 = bif one a then k 1 else some false)
  (more : ∀ (i : Nat) k q a, A[i]? = some q → A[i + 1]? = some a → one q = true → i + 1 < 9223372036854775807 → body k ((i + 1 : Nat) : Int) = bif one a then (bif bef q a then k ((i + 2 : Nat) : Int) else some false) else some false)
  (done : ∀ k, body k (A.length : Int) = some fin) : loop body 0 = some (adj one bef none A && fin) := by
 have key : ∀ (d i : Nat), i + 1 + d = A.length → ∀ q, A[i]? = some q → one q = true → ∀ N, d < N → iter body N ((i + 1 : Nat) : Int) = some (adj one bef (some q) (A.drop (i + 1)) && fin) := by
  intro d
  induction d with
  | zero =>
   intro i hi q hq ho N hN
   obtain ⟨N, rfl⟩ : ∃ M, N = M + 1 := ⟨N - 1, by omega⟩
   have : i + 1 = A.length := by omega
   rw [iter, this, done, List.drop_length]
   rfl
  | succ d ih =>
   intro i hi q hq ho N hN
   obtain ⟨N, rfl⟩ : ∃ M, N = M + 1 := ⟨N - 1, by omega⟩
   obtain ⟨a, ha⟩ := get_some (L := A) (n := i + 1) (by omega)
   rw [iter, more i _ q a hq ha ho (by omega), drop_cons ha]
   simp only [adj]
   cases ho2 : one a
   ·rfl
   ·cases bef q a
    ·rfl
    ·have := ih (i + 1) (by omega) a ha ho2 N (by omega)
     simp only [bif_t, Bool.true_and]
     exact this
 cases A with
 | nil =>
  obtain ⟨m, hm⟩ : ∃ m, lim = m + 1 := ⟨lim - 1, by unfold lim; omega⟩
  unfold loop
  rw [hm, iter]
  have := done (iter body m)
  simpa [adj] using this
 | cons a A =>
  obtain ⟨m, hm⟩ : ∃ m, lim = m + 1 := ⟨lim - 1, by unfold lim; omega⟩
  have hml : A.length < m := by unfold lim at hm; simp only [List.length_cons] at hA; omega
  have hf := first (iter body m) a rfl
  unfold loop
  rw [hm, iter, hf]
  simp only [adj]
  cases ho : one a
  ·rfl
  ·have := key A.length 0 (by simp only [List.length_cons]; omega) a rfl ho m hml
   simp only [bif_t, Bool.true_and]
   simpa using this
def pr2 : List Int → Bool
 | [a, b] => decide (0 ≤ a ∧ a ≤ 11) && (decide (0 ≤ b ∧ b ≤ 11) && !decide (a = b))
 | _ => false
def pbef : List Int → List Int → Bool
 | [a, b], [c, d] => decide (a < c) || (decide (a = c) && decide (b < d))
 | _, _ => false
theorem two_cases {α : Type} (q : List α) : (∃ a b, q = [a, b]) ∨ decide ((q.length : Int) = 2) = false := by
 match q with
 | [] => exact .inr (by simp)
 | [a] => exact .inr (by simp)
 | [a, b] => exact .inl ⟨a, b, rfl⟩
 | a :: b :: c :: t => exact .inr (decide_eq_false (by simp only [List.length_cons]; omega))
theorem pr2_two {q : List Int} (h : pr2 q = true) : ∃ a b, q = [a, b] := by
 rcases two_cases q with h2 | h2
 ·exact h2
 ·match q, h with
  | [a, b], _ => exact ⟨a, b, rfl⟩
theorem ix0 {α : Type} (a b : α) : ix [a, b] 0 = some a := rfl
theorem ix1 {α : Type} (a b : α) : ix [a, b] 1 = some b := rfl
theorem pr2_no {q : List Int} (h : decide ((q.length : Int) = 2) = false) : pr2 q = false := by
 match q, h with
 | [], _ => rfl
 | [a], _ => rfl
 | [a, b], h => simp at h
 | a :: b :: c :: t, _ => rfl
theorem l05Pair_eq (q : List Int) : F_spec_l05Pair q = some (pr2 q) := by
 unfold F_spec_l05Pair
 rcases two_cases q with ⟨a, b, rfl⟩ | h
 ·rw [show decide ((([a, b] : List Int).length : Int) = 2) = true from rfl, bif_t]
  simp only [ix0, ix1, Option.bind_some, l00In_eq, pr2]
  cases decide (0 ≤ a ∧ a ≤ 11) <;> cases decide (0 ≤ b ∧ b ≤ 11) <;> simp
 ·rw [h, bif_f, pr2_no h]
theorem Compare2_eq (a b c d : Int) : ∃ r, F_slices_Compare_Sint64_int64 [a, b] [c, d] = some r ∧ decide (0 ≤ r) = !pbef [a, b] [c, d] := by
 unfold F_slices_Compare_Sint64_int64
 obtain ⟨m, hm⟩ : ∃ m, lim = m + 1 + 1 + 1 := ⟨lim - 3, by unfold lim; omega⟩
 unfold loop
 rw [hm]
 have w1 : w64 ((0 : Int) + 1) = 1 := by rw [w64_id (by omega)]; rfl
 have w2 : w64 ((1 : Int) + 1) = 2 := by rw [w64_id (by omega)]; rfl
 simp only [iter, F_slices_Compare_Sint64_int64_l0, ix0, ix1, Option.bind_some, cmpI_eq, w1, w2, List.length_cons, List.length_nil]
 simp only [show decide ((0 : Int) < ((0 + 1 + 1 : Nat) : Int)) = true from rfl, show decide ((1 : Int) < ((0 + 1 + 1 : Nat) : Int)) = true from rfl, show decide ((2 : Int) < ((0 + 1 + 1 : Nat) : Int)) = false from rfl, show decide (((0 + 1 + 1 : Nat) : Int) ≤ 0) = false from rfl, show decide (((0 + 1 + 1 : Nat) : Int) ≤ 1) = false from rfl, show decide (((0 + 1 + 1 : Nat) : Int) < ((0 + 1 + 1 : Nat) : Int)) = false from rfl, bif_t, bif_f]
 unfold pbef cmpI
 rcases Int.lt_trichotomy a c with h | h | h
 ·refine ⟨-1, ?_, ?_⟩ <;> simp [h]
 ·subst h
  rcases Int.lt_trichotomy b d with h | h | h
  ·refine ⟨-1, ?_, ?_⟩ <;> simp [h]
  ·subst h
   refine ⟨0, ?_, ?_⟩ <;> simp
  ·have : ¬ b < d := by omega
   refine ⟨1, ?_, ?_⟩ <;> simp [h, this]
 ·have h1 : ¬ a < c := by omega
  have h2 : ¬ a = c := by omega
  refine ⟨1, ?_, ?_⟩ <;> simp [h, h1, h2]
def pairsOk (F : List (List Int)) : Bool := adj pr2 pbef none F && decide ((F.length : Int) ≤ 8)
theorem l05Pairs_eq {F : List (List Int)} (hF : F.length ≤ 9223372036854775807) : F_spec_l05Pairs F = some (pairsOk F) := by
 unfold F_spec_l05Pairs pairsOk
 refine loop_adjP hF ?_ ?_ ?_
 ·intro k a ha
  have h0 : (0 : Int) = ((0 : Nat) : Int) := rfl
  rw [h0]
  simp only [F_spec_l05Pairs_l0, int_lt (get_lt ha), bif_t, ix_get ha, Option.bind_some, l05Pair_eq, nif]
  rfl
 ·intro i k q a hq ha ho hi
  obtain ⟨x, y, rfl⟩ := pr2_two ho
  simp only [F_spec_l05Pairs_l0, int_lt (get_lt ha), bif_t, ix_get ha, Option.bind_some, l05Pair_eq, nif, int_pos', w64_pred (show i < 9223372036854775807 by omega), ix_get hq, ix0, ix1, w64_succ hi]
  cases hp : pr2 a
  ·rfl
  ·obtain ⟨c, d, rfl⟩ := pr2_two hp
   simp only [bif_t, ix0, ix1, Option.bind_some, pbef]
   rcases Int.lt_trichotomy x c with h | h | h
   ·rw [decide_eq_false (show ¬ c < x by omega), decide_eq_false (show ¬ x = c by omega), decide_eq_true h]; rfl
   ·subst h
    rw [decide_eq_false (show ¬ x < x by omega), decide_eq_true (rfl : x = x)]
    by_cases h3 : y < d
    ·rw [decide_eq_false (show ¬ d ≤ y by omega), decide_eq_true h3]; rfl
    ·rw [decide_eq_true (show d ≤ y by omega), decide_eq_false h3]; rfl
   ·rw [decide_eq_true h, decide_eq_false (show ¬ x < c by omega), decide_eq_false (show ¬ x = c by omega)]; rfl
 ·intro k; simp only [F_spec_l05Pairs_l0, int_lt_self, bif_f]
def ragaOk (a : TRaga) : Bool := nameOk a.1 && (scaleOk a.2.1 && (scaleOk a.2.2.1 && (toneIn a a.2.2.2.1 && (toneIn a a.2.2.2.2.1 && (!decide (a.2.2.2.1 = a.2.2.2.2.1) && pairsOk a.2.2.2.2.2)))))
theorem l05Ok_eq {a : TRaga} (o : OkRaga a) : F_spec_l05Ok a = some (ragaOk a) := by
 obtain ⟨o0, o1, o2, _, _, o5⟩ := o
 unfold F_spec_l05Ok ragaOk
 rw [l01Name_eq _ o0, l03Scale_eq o1.1, l03Scale_eq o2.1, l05Tone_eq o1.1 o2.1, l05Tone_eq o1.1 o2.1, l05Pairs_eq o5.1]
 simp only [Option.bind_some, ne_eq, decide_not]
 cases nameOk a.1 <;> cases scaleOk a.2.1 <;> cases scaleOk a.2.2.1 <;> cases toneIn a a.2.2.2.1 <;> cases toneIn a a.2.2.2.2.1 <;> cases decide (a.2.2.2.1 = a.2.2.2.2.1) <;> rfl
theorem ValidRaga_eq {a : TRaga} (o : OkRaga a) : F_impl_ValidRaga a = some (ragaOk a) := by
 obtain ⟨o0, o1, o2, _, _, o5⟩ := o
 have e : loop (F_impl_ValidRaga_l0 a) 0 = some (adj pr2 pbef none a.2.2.2.2.2 && true) := by
  refine loop_adjP o5.1 ?_ ?_ ?_
  ·intro k q hq
   have h0 : (0 : Int) = ((0 : Nat) : Int) := rfl
   rw [h0]
   simp only [F_impl_ValidRaga_l0, int_lt (get_lt hq), bif_t, ix_get hq, Option.bind_some]
   rcases two_cases q with ⟨x, y, rfl⟩ | h
   ·rw [show decide ((([x, y] : List Int).length : Int) ≠ 2) = false from rfl, bif_f]
    simp only [ix0, ix1, Option.bind_some, F_impl_toneOk, within_eq, pr2]
    cases decide (0 ≤ x ∧ x ≤ 11) <;> cases decide (0 ≤ y ∧ y ≤ 11) <;> cases decide (x = y) <;> rfl
   ·rw [decide_eq_true (of_decide_eq_false h), bif_t, pr2_no h]; rfl
  ·intro i k p q hp hq ho hi
   obtain ⟨c, d, rfl⟩ := pr2_two ho
   simp only [F_impl_ValidRaga_l0, int_lt (get_lt hq), bif_t, ix_get hq, Option.bind_some, int_pos', w64_pred (show i < 9223372036854775807 by omega), ix_get hp, w64_succ hi]
   rcases two_cases q with ⟨x, y, rfl⟩ | h
   ·obtain ⟨r, e1, e2⟩ := Compare2_eq c d x y
    rw [show decide ((([x, y] : List Int).length : Int) ≠ 2) = false from rfl, bif_f]
    simp only [ix0, ix1, Option.bind_some, F_impl_toneOk, within_eq, pr2, e1, e2, nif]
    cases decide (0 ≤ x ∧ x ≤ 11) <;> cases decide (0 ≤ y ∧ y ≤ 11) <;> cases decide (x = y) <;> rfl
   ·rw [decide_eq_true (of_decide_eq_false h), bif_t, pr2_no h]; rfl
  ·intro k; simp only [F_impl_ValidRaga_l0, int_lt_self, bif_f]
 unfold F_impl_ValidRaga ragaOk pairsOk
 rw [IsName_eq _ o0, ValidScale_eq o1.1, ValidScale_eq o2.1, hasTone_eq o1.1 o2.1, hasTone_eq o1.1 o2.1, e]
 simp only [Option.bind_some, Bool.and_true]
 have h8 : decide ((8 : Int) < (a.2.2.2.2.2.length : Int)) = !decide ((a.2.2.2.2.2.length : Int) ≤ 8) := by
  by_cases h : (a.2.2.2.2.2.length : Int) ≤ 8
  ·rw [decide_eq_true h, decide_eq_false (by omega)]; rfl
  ·rw [decide_eq_false h, decide_eq_true (by omega)]; rfl
 rw [h8]
 cases nameOk a.1 <;> cases scaleOk a.2.1 <;> cases scaleOk a.2.2.1 <;> cases toneIn a a.2.2.2.1 <;> cases toneIn a a.2.2.2.2.1 <;> cases decide (a.2.2.2.1 = a.2.2.2.2.1) <;> cases decide ((a.2.2.2.2.2.length : Int) ≤ 8) <;> simp
def turnOk (t : TTurn) : Bool := nameOk t.1 && (decide (0 ≤ t.2.1 ∧ t.2.1 ≤ 10000) && decide (1 ≤ t.2.2 ∧ t.2.2 ≤ 10000))
def turnBef (a b : TTurn) : Bool := if a.2.1 ≠ b.2.1 then decide (a.2.1 < b.2.1) else if a.1 ≠ b.1 then decide (a.1 < b.1) else decide (a.2.2 < b.2.2)
theorem l23One_eq {t : TTurn} (o : OkTurn t) : F_spec_l23One t = some (turnOk t) := by
 unfold F_spec_l23One turnOk
 rw [l01Name_eq _ o.1, l00In_eq, l00In_eq]
 simp only [Option.bind_some]
 cases nameOk t.1 <;> cases decide (0 ≤ t.2.1 ∧ t.2.1 ≤ 10000) <;> rfl
theorem Tvalid_eq {t : TTurn} (o : OkTurn t) : F_impl_Turn_valid t = some (turnOk t) := by
 unfold F_impl_Turn_valid turnOk
 rw [IsName_eq _ o.1, within_eq, within_eq]
 simp only [Option.bind_some]
 cases nameOk t.1 <;> cases decide (0 ≤ t.2.1 ∧ t.2.1 ≤ 10000) <;> rfl
theorem l23Before_eq (a b : TTurn) : F_spec_l23Before a b = some (turnBef a b) := by
 unfold F_spec_l23Before turnBef
 simp only [bif_dec, less_eq]
 split
 ·rfl
 ·split <;> rfl
theorem compareT_bef (a b : TTurn) : ∃ c, F_impl_compareTurns a b = some c ∧ decide (0 ≤ c) = !turnBef a b := by
 refine ⟨or3 (cmpI a.2.1 b.2.1) (cmpT a.1 b.1) (cmpI a.2.2 b.2.2), ?_, ?_⟩
 ·unfold F_impl_compareTurns
  rw [cmpI_eq, cmpT_eq, cmpI_eq]
  simp only [Option.bind_some, Or3_eq]
 ·unfold or3 turnBef cmpI cmpT
  by_cases h1 : a.2.1 < b.2.1
  ·have : a.2.1 ≠ b.2.1 := by omega
   simp [h1, this]
  ·by_cases h2 : b.2.1 < a.2.1
   ·have : a.2.1 ≠ b.2.1 := by omega
    simp [h1, h2, this]
   ·have e : a.2.1 = b.2.1 := by omega
    simp only [e, Int.lt_irrefl, if_false, ne_eq, not_true_eq_false]
    by_cases h3 : a.1 = b.1
    ·have e3 : ¬ b.1 < b.1 := List.lt_irrefl _
     simp only [h3, e3, if_false, if_true, not_true_eq_false]
     by_cases h4 : a.2.2 < b.2.2
     ·simp [h4]
     ·by_cases h5 : b.2.2 < a.2.2 <;> simp [h4, h5]
    ·by_cases h4 : a.1 < b.1 <;> simp [h3, h4]
def turnsOk (L : List TTurn) : Bool := adj turnOk turnBef none L && decide ((L.length : Int) ≤ 24)
theorem l23Ok_eq {L : List TTurn} (oL : (OkL OkTurn) L) : F_spec_l23Ok L = some (turnsOk L) := by
 unfold F_spec_l23Ok turnsOk
 refine loop_adj oL.1 ?_ ?_ ?_
 ·intro k a ha
  have h0 : (0 : Int) = ((0 : Nat) : Int) := rfl
  rw [h0]
  simp only [F_spec_l23Ok_l0, int_lt (get_lt ha), bif_t, ix_get ha, Option.bind_some, l23One_eq (oL.2 a (get_mem ha)), nif]
  rfl
 ·intro i k q a hq ha hi
  simp only [F_spec_l23Ok_l0, int_lt (get_lt ha), bif_t, ix_get ha, Option.bind_some, l23One_eq (oL.2 a (get_mem ha)), nif, int_pos', w64_pred (show i < 9223372036854775807 by omega), w64_succ hi, ix_get hq, l23Before_eq]
 ·intro k; simp only [F_spec_l23Ok_l0, int_lt_self, bif_f]
theorem ValidTurns_eq {L : List TTurn} (oL : (OkL OkTurn) L) : F_impl_ValidTurns L = some (turnsOk L) := by
 have e : loop (F_impl_ValidTurns_l0 L) 0 = some (adj turnOk turnBef none L && true) := by
  refine loop_adj oL.1 ?_ ?_ ?_
  ·intro k a ha
   have h0 : (0 : Int) = ((0 : Nat) : Int) := rfl
   rw [h0]
   simp only [F_impl_ValidTurns_l0, int_lt (get_lt ha), bif_t, ix_get ha, Option.bind_some, Tvalid_eq (oL.2 a (get_mem ha)), nif]
   rfl
  ·intro i k q a hq ha hi
   obtain ⟨c, e, hc⟩ := compareT_bef q a
   simp only [F_impl_ValidTurns_l0, int_lt (get_lt ha), bif_t, ix_get ha, Option.bind_some, Tvalid_eq (oL.2 a (get_mem ha)), nif, int_pos', w64_pred (show i < 9223372036854775807 by omega), w64_succ hi, ix_get hq, e, hc]
  ·intro k; simp only [F_impl_ValidTurns_l0, int_lt_self, bif_f]
 unfold F_impl_ValidTurns turnsOk
 rw [e]
 by_cases h : (24 : Int) < L.length
 ·rw [decide_eq_true h, bif_t, decide_eq_false (by omega), Bool.and_false]
 ·rw [decide_eq_false h, bif_f, decide_eq_true (by omega)]
end Go.Ab
