/- Two desks alike: the program's and the reference's (own text). -/
import Derived.Test.YtlboickhkhbffaaPS
set_option linter.unusedVariables false
set_option linter.unusedSimpArgs false
namespace Go.Ab
open Go.RowKit
theorem loop_same {α : Type} [DecidableEq α] {A B : List α} {X : Option Bool} {body : (Int → Option Bool) → Int → Option Bool} (hA : A.length ≤ 9223372036854775807) (hl : A.length = B.length)
    (more : ∀ (i : Nat) k a b, A[i]? = some a → B[i]? = some b → i < A.length → i < 9223372036854775807 → body k (i : Int) = bif decide (a = b) then k ((i + 1 : Nat) : Int) else some false)
    (done : ∀ k, body k (A.length : Int) = X) : loop body 0 = bif decide (A = B) then X else some false := by
  have key : ∀ (d i : Nat), i + d = A.length → ∀ N, d < N → iter body N (i : Int) = bif decide (A.drop i = B.drop i) then X else some false := by
    intro d
    induction d with
    | zero =>
      intro i hi N hN
      obtain ⟨N, rfl⟩ : ∃ M, N = M + 1 := ⟨N - 1, by omega⟩
      have : i = A.length := by omega
      subst this
      rw [iter, done, List.drop_length, List.drop_eq_nil_of_le (by omega), decide_eq_true rfl, bif_t]
    | succ d ih =>
      intro i hi N hN
      obtain ⟨N, rfl⟩ : ∃ M, N = M + 1 := ⟨N - 1, by omega⟩
      obtain ⟨a, ha⟩ := get_some (L := A) (n := i) (by omega)
      obtain ⟨b, hb⟩ := get_some (L := B) (n := i) (by omega)
      rw [iter, more i _ a b ha hb (by omega) (by omega), drop_cons ha, drop_cons hb]
      have := ih (i + 1) (by omega) N (by omega)
      rw [this]
      by_cases h : a = b
      · subst h
        rw [decide_eq_true (rfl : a = a), bif_t]
        congr 1
        by_cases h2 : A.drop (i + 1) = B.drop (i + 1)
        · rw [decide_eq_true h2, decide_eq_true (by rw [h2])]
        · rw [decide_eq_false h2, decide_eq_false (fun e => h2 (List.cons.inj e).2)]
      · rw [decide_eq_false h, decide_eq_false (fun e => h (List.cons.inj e).1), bif_f, bif_f]
  exact key A.length 0 (by omega) lim (lt_lim hA)
theorem ne_len {α : Type} [DecidableEq α] {A B : List α} (h : ¬ A.length = B.length) : decide (A = B) = false := decide_eq_false fun e => h (by rw [e])
theorem nif {R : Type} {b : Bool} {x y : R} : (bif !b then x else y) = bif b then y else x := by cases b <;> rfl
theorem ne_dec {p : Prop} [Decidable p] : decide (¬ p) = !decide p := by by_cases h : p <;> simp [h]
theorem eq2 {α β : Type} [DecidableEq α] [DecidableEq β] (a b : α × β) : (decide (a.1 = b.1) && decide (a.2 = b.2)) = decide (a = b) := by
  obtain ⟨a1, a2⟩ := a
  obtain ⟨b1, b2⟩ := b
  by_cases h1 : a1 = b1 <;> by_cases h2 : a2 = b2 <;> simp [h1, h2]
/-- The lengths first, then each. -/
theorem len_same {α : Type} [DecidableEq α] {A B : List α} {X L : Option Bool} (h : A.length = B.length → L = bif decide (A = B) then X else some false) : (bif decide ((A.length : Int) ≠ (B.length : Int)) then some false else L) = bif decide (A = B) then X else some false := by
  by_cases e : A.length = B.length
  · rw [decide_eq_false (by omega), bif_f]; exact h e
  · rw [decide_eq_true (by omega), bif_t, ne_len e, bif_f]
theorem len_nat {α : Type} {A B : List α} (h : A.length = B.length) : ((A.length : Int)) = (B.length : Int) := by rw [h]
theorem bif_some {b : Bool} : (bif b then some true else some false) = some b := by cases b <;> rfl
abbrev Max : Nat := 9223372036854775807
theorem l00Same_eq {A B : List Int} (hA : A.length ≤ 9223372036854775807) : F_spec_l00Same A B = some (decide (A = B)) := by
  unfold F_spec_l00Same
  refine Eq.trans ?_ bif_some
  refine len_same fun hl => ?_
  refine loop_same (by assumption) hl (fun i k a b ha hb hi hm => ?_) (fun k => ?_)
  · simp only [F_spec_l00Same_l0, int_lt hi, bif_t, ix_get ha, ix_get hb, Option.bind_some, w64_succ hm, ne_eq, ne_dec, nif, Bool.and_true, eq2]
  · simp only [F_spec_l00Same_l0, int_lt_self, bif_f]
theorem EqI {A B : List Int} (hA : A.length ≤ 9223372036854775807) : F_slices_Equal_Sint64_int64 A B = some (decide (A = B)) := by
  unfold F_slices_Equal_Sint64_int64
  refine Eq.trans ?_ bif_some
  refine len_same fun hl => ?_
  refine loop_same (by assumption) hl (fun i k a b ha hb hi hm => ?_) (fun k => ?_)
  · simp only [F_slices_Equal_Sint64_int64_l0, int_lt hi, bif_t, ix_get ha, ix_get hb, Option.bind_some, w64_succ hm, ne_eq, ne_dec, nif, Bool.and_true, eq2]
  · simp only [F_slices_Equal_Sint64_int64_l0, int_lt_self, bif_f]
theorem EqN {A B : List TNote} (hA : A.length ≤ 9223372036854775807) : F_slices_Equal_SNote_Note A B = some (decide (A = B)) := by
  unfold F_slices_Equal_SNote_Note
  refine Eq.trans ?_ bif_some
  refine len_same fun hl => ?_
  refine loop_same (by assumption) hl (fun i k a b ha hb hi hm => ?_) (fun k => ?_)
  · simp only [F_slices_Equal_SNote_Note_l0, int_lt hi, bif_t, ix_get ha, ix_get hb, Option.bind_some, w64_succ hm, ne_eq, ne_dec, nif, Bool.and_true, eq2]
  · simp only [F_slices_Equal_SNote_Note_l0, int_lt_self, bif_f]
theorem EqR {A B : List TNote} (hA : A.length ≤ 9223372036854775807) : F_slices_Equal_SRatio_Ratio A B = some (decide (A = B)) := by
  unfold F_slices_Equal_SRatio_Ratio
  refine Eq.trans ?_ bif_some
  refine len_same fun hl => ?_
  refine loop_same (by assumption) hl (fun i k a b ha hb hi hm => ?_) (fun k => ?_)
  · simp only [F_slices_Equal_SRatio_Ratio_l0, int_lt hi, bif_t, ix_get ha, ix_get hb, Option.bind_some, w64_succ hm, ne_eq, ne_dec, nif, Bool.and_true, eq2]
  · simp only [F_slices_Equal_SRatio_Ratio_l0, int_lt_self, bif_f]
theorem EqT {A B : List TNote} (hA : A.length ≤ 9223372036854775807) : F_slices_Equal_STempoMark_TempoMark A B = some (decide (A = B)) := by
  unfold F_slices_Equal_STempoMark_TempoMark
  refine Eq.trans ?_ bif_some
  refine len_same fun hl => ?_
  refine loop_same (by assumption) hl (fun i k a b ha hb hi hm => ?_) (fun k => ?_)
  · simp only [F_slices_Equal_STempoMark_TempoMark_l0, int_lt hi, bif_t, ix_get ha, ix_get hb, Option.bind_some, w64_succ hm, ne_eq, ne_dec, nif, Bool.and_true, eq2]
  · simp only [F_slices_Equal_STempoMark_TempoMark_l0, int_lt_self, bif_f]
theorem EqY {A B : List TSyllable} (hA : A.length ≤ 9223372036854775807) : F_slices_Equal_SSyllable_Syllable A B = some (decide (A = B)) := by
  unfold F_slices_Equal_SSyllable_Syllable
  refine Eq.trans ?_ bif_some
  refine len_same fun hl => ?_
  refine loop_same (by assumption) hl (fun i k a b ha hb hi hm => ?_) (fun k => ?_)
  · simp only [F_slices_Equal_SSyllable_Syllable_l0, int_lt hi, bif_t, ix_get ha, ix_get hb, Option.bind_some, w64_succ hm, ne_eq, ne_dec, nif, Bool.and_true, eq2]
  · simp only [F_slices_Equal_SSyllable_Syllable_l0, int_lt_self, bif_f]
theorem EqM {A B : List TItem} (hA : A.length ≤ 9223372036854775807) : F_slices_Equal_SItem_Item A B = some (decide (A = B)) := by
  unfold F_slices_Equal_SItem_Item
  refine Eq.trans ?_ bif_some
  refine len_same fun hl => ?_
  refine loop_same (by assumption) hl (fun i k a b ha hb hi hm => ?_) (fun k => ?_)
  · simp only [F_slices_Equal_SItem_Item_l0, int_lt hi, bif_t, ix_get ha, ix_get hb, Option.bind_some, w64_succ hm, ne_eq, ne_dec, nif, Bool.and_true, eq2]
  · simp only [F_slices_Equal_SItem_Item_l0, int_lt_self, bif_f]
theorem EqL {A B : List TLesson} (hA : A.length ≤ 9223372036854775807) : F_slices_Equal_SLesson_Lesson A B = some (decide (A = B)) := by
  unfold F_slices_Equal_SLesson_Lesson
  refine Eq.trans ?_ bif_some
  refine len_same fun hl => ?_
  refine loop_same (by assumption) hl (fun i k a b ha hb hi hm => ?_) (fun k => ?_)
  · simp only [F_slices_Equal_SLesson_Lesson_l0, int_lt hi, bif_t, ix_get ha, ix_get hb, Option.bind_some, w64_succ hm, ne_eq, ne_dec, nif, Bool.and_true, eq2]
  · simp only [F_slices_Equal_SLesson_Lesson_l0, int_lt_self, bif_f]
theorem EqS {A B : List (List UInt8)} (hA : A.length ≤ 9223372036854775807) : F_slices_Equal_Sstring_string A B = some (decide (A = B)) := by
  unfold F_slices_Equal_Sstring_string
  refine Eq.trans ?_ bif_some
  refine len_same fun hl => ?_
  refine loop_same (by assumption) hl (fun i k a b ha hb hi hm => ?_) (fun k => ?_)
  · simp only [F_slices_Equal_Sstring_string_l0, int_lt hi, bif_t, ix_get ha, ix_get hb, Option.bind_some, w64_succ hm, ne_eq, ne_dec, nif, Bool.and_true, eq2]
  · simp only [F_slices_Equal_Sstring_string_l0, int_lt_self, bif_f]
theorem l09Same_eq {A B : List TNote} (hA : A.length ≤ 9223372036854775807) : F_spec_l09Same A B = some (decide (A = B)) := by
  unfold F_spec_l09Same
  refine Eq.trans ?_ bif_some
  refine len_same fun hl => ?_
  refine loop_same (by assumption) hl (fun i k a b ha hb hi hm => ?_) (fun k => ?_)
  · simp only [F_spec_l09Same_l0, int_lt hi, bif_t, ix_get ha, ix_get hb, Option.bind_some, w64_succ hm, ne_eq, ne_dec, nif, Bool.and_true, eq2]
  · simp only [F_spec_l09Same_l0, int_lt_self, bif_f]
theorem EqII {A B : List (List Int)} (hA : (OkL (OkL OkI)) A) : F_slices_EqualFunc_SSint64_Sint64 A B = some (decide (A = B)) := by
  have h1 := hA.1
  unfold F_slices_EqualFunc_SSint64_Sint64; refine Eq.trans ?_ bif_some
  refine len_same fun hl => ?_
  refine loop_same h1 hl (fun i k a b ha hb hi hm => ?_) (fun k => ?_)
  · simp only [F_slices_EqualFunc_SSint64_Sint64_l0, int_lt hi, bif_t, ix_get ha, ix_get hb, Option.bind_some, w64_succ hm, EqI (hA.2 a (get_mem ha)).1, nif]
  · simp only [F_slices_EqualFunc_SSint64_Sint64_l0, int_lt_self, bif_f]
theorem per_eq {p q : TPerson} : (decide (p.1 = q.1) && (decide (p.2.1 = q.2.1) && decide (p.2.2 = q.2.2))) = decide (p = q) := by rw [eq2 p.2 q.2, eq2]
theorem specPersons_eq {A B : List TPerson} (hA : (OkL OkPerson) A) : F_spec_SamePersons A B = some (decide (A = B)) := by
  have h1 := hA.1
  unfold F_spec_SamePersons; refine Eq.trans ?_ bif_some
  refine len_same fun hl => ?_
  refine loop_same h1 hl (fun i k a b ha hb hi hm => ?_) (fun k => ?_)
  · have h2 : a.2.2.length ≤ 9223372036854775807 := (hA.2 a (get_mem ha)).2.2.1
    have inner : a.2.2.length = b.2.2.length → loop (F_spec_SamePersons_l1 A B (i : Int) k) 0 = bif decide (a.2.2 = b.2.2) then k ((i + 1 : Nat) : Int) else some false := by
      intro hl2
      refine loop_same h2 hl2 (fun j k1 x y hx hy hj hjm => ?_) (fun k1 => ?_)
      · simp only [F_spec_SamePersons_l1, ix_get ha, ix_get hb, Option.bind_some, int_lt hj, bif_t, ix_get hx, ix_get hy, w64_succ hjm, ne_eq, ne_dec, nif]
      · simp only [F_spec_SamePersons_l1, ix_get ha, Option.bind_some, int_lt_self, bif_f, w64_succ hm]
    have e := len_same inner
    rw [← per_eq]
    simp only [F_spec_SamePersons_l0, int_lt hi, bif_t, ix_get ha, ix_get hb, Option.bind_some, e]
    simp only [ne_eq, ne_dec, nif]
    cases decide (a.1 = b.1) <;> cases decide (a.2.1 = b.2.1) <;> rfl
  · simp only [F_spec_SamePersons_l0, int_lt_self, bif_f]
theorem implPersons_eq {A B : List TPerson} (hA : (OkL OkPerson) A) : F_impl_SamePersons A B = some (decide (A = B)) := by
  have h1 := hA.1
  have e : F_slices_EqualFunc_SPerson_Person A B = some (decide (A = B)) := by
    unfold F_slices_EqualFunc_SPerson_Person; refine Eq.trans ?_ bif_some
    refine len_same fun hl => ?_
    refine loop_same h1 hl (fun i k a b ha hb hi hm => ?_) (fun k => ?_)
    · have h2 : a.2.2.length ≤ 9223372036854775807 := (hA.2 a (get_mem ha)).2.2.1
      have e1 : F_impl_SamePersons_1 a b = some (decide (a = b)) := by
        unfold F_impl_SamePersons_1
        rw [EqS h2, ← per_eq]
        cases decide (a.1 = b.1) <;> cases decide (a.2.1 = b.2.1) <;> rfl
      simp only [F_slices_EqualFunc_SPerson_Person_l0, int_lt hi, bif_t, ix_get ha, ix_get hb, Option.bind_some, w64_succ hm, e1, nif]
    · simp only [F_slices_EqualFunc_SPerson_Person_l0, int_lt_self, bif_f]
  unfold F_impl_SamePersons
  rw [e]; rfl
def ragaB (a b : TRaga) : Bool := decide (a.1 = b.1) && (decide (a.2.1 = b.2.1) && (decide (a.2.2.1 = b.2.2.1) && (decide (a.2.2.2.1 = b.2.2.2.1) && (decide (a.2.2.2.2.1 = b.2.2.2.2.1) && decide (a.2.2.2.2.2 = b.2.2.2.2.2)))))
theorem specRaga_eq {a b : TRaga} (ha : OkRaga a) : F_spec_SameRaga a b = some (ragaB a b) := by
  obtain ⟨o0, o1, o2, o3, o4, o5⟩ := ha
  unfold F_spec_SameRaga ragaB
  have e : (bif decide ((a.2.2.2.2.2.length : Int) ≠ (b.2.2.2.2.2.length : Int)) then some false else loop (F_spec_SameRaga_l0 a b) 0) = some (decide (a.2.2.2.2.2 = b.2.2.2.2.2)) := by
    refine Eq.trans ?_ bif_some
    refine len_same fun hl => ?_
    refine loop_same o5.1 hl (fun i k x y hx hy hi hm => ?_) (fun k => ?_)
    · simp only [F_spec_SameRaga_l0, int_lt hi, bif_t, ix_get hx, ix_get hy, Option.bind_some, w64_succ hm, l00Same_eq (o5.2 x (get_mem hx)).1, nif]
    · simp only [F_spec_SameRaga_l0, int_lt_self, bif_f]
  rw [e, l00Same_eq o1.1, l00Same_eq o2.1]
  simp only [Option.bind_some, ne_eq, ne_dec, nif]
  cases decide (a.1 = b.1) <;> cases decide (a.2.1 = b.2.1) <;> cases decide (a.2.2.1 = b.2.2.1) <;> cases decide (a.2.2.2.1 = b.2.2.2.1) <;> cases decide (a.2.2.2.2.1 = b.2.2.2.2.1) <;> rfl
theorem implRaga_eq {a b : TRaga} (ha : OkRaga a) : F_impl_SameRaga a b = some (ragaB a b) := by
  obtain ⟨o0, o1, o2, o3, o4, o5⟩ := ha
  unfold F_impl_SameRaga ragaB
  rw [EqI o1.1, EqI o2.1, EqII o5]
  simp only [Option.bind_some]
  cases decide (a.1 = b.1) <;> cases decide (a.2.1 = b.2.1) <;> cases decide (a.2.2.1 = b.2.2.1) <;> cases decide (a.2.2.2.1 = b.2.2.2.1) <;> cases decide (a.2.2.2.2.1 = b.2.2.2.2.1) <;> rfl
def tunB (a b : TTuning) : Bool := decide (a.1 = b.1) && decide (a.2 = b.2)
theorem specTuning_eq {a b : TTuning} (ha : OkTuning a) : F_spec_SameTuning a b = some (tunB a b) := by
  obtain ⟨o0, o1⟩ := ha
  have o1 := o1.1
  unfold F_spec_SameTuning tunB
  have e : (bif decide ((a.2.length : Int) ≠ (b.2.length : Int)) then some false else loop (F_spec_SameTuning_l0 a b) 0) = some (decide (a.2 = b.2)) := by
    refine Eq.trans ?_ bif_some
    refine len_same fun hl => ?_
    refine loop_same (by assumption) hl (fun i k a b ha hb hi hm => ?_) (fun k => ?_)
    · simp only [F_spec_SameTuning_l0, int_lt hi, bif_t, ix_get ha, ix_get hb, Option.bind_some, w64_succ hm, ne_eq, ne_dec, nif, Bool.and_true, eq2]
    · simp only [F_spec_SameTuning_l0, int_lt_self, bif_f]
  rw [e]
  simp only [ne_eq, ne_dec, nif]
  cases decide (a.1 = b.1) <;> rfl
theorem implTuning_eq {a b : TTuning} (ha : OkTuning a) : F_impl_SameTuning a b = some (tunB a b) := by
  obtain ⟨o0, o1⟩ := ha
  unfold F_impl_SameTuning tunB
  rw [EqR o1.1]
  cases decide (a.1 = b.1) <;> rfl
theorem core_SameDesk (a b : TDesk) (oa : OkDesk a) (ob : OkDesk b) (sa : SmDesk a) (sb : SmDesk b) : ∃ w, F_spec_SameDesk a b = some w ∧ F_impl_SameDesk a b = some w ∧ True := by
  obtain ⟨o0, o1, o2, o3, o4, o5, o6, o7, o8⟩ := oa
  have q7 : a.2.2.2.2.2.2.2.2.2.2.2.2.2.1.length = b.2.2.2.2.2.2.2.2.2.2.2.2.2.1.length → loop (F_spec_SameDesk_l4 a b) 0 = bif decide (a.2.2.2.2.2.2.2.2.2.2.2.2.2.1 = b.2.2.2.2.2.2.2.2.2.2.2.2.2.1) then some true else some false := by
    intro hl
    refine loop_same o7.1 hl (fun i k x y hx hy hi hm => ?_) (fun k => ?_)
    · simp only [F_spec_SameDesk_l4, int_lt hi, bif_t, ix_get hx, ix_get hy, Option.bind_some, w64_succ hm, nif, Bool.and_true, eq2]
    · simp only [F_spec_SameDesk_l4, int_lt_self, bif_f]
  have q6 : a.2.2.2.2.2.2.2.2.2.2.2.2.1.length = b.2.2.2.2.2.2.2.2.2.2.2.2.1.length → loop (F_spec_SameDesk_l3 a b) 0 = bif decide (a.2.2.2.2.2.2.2.2.2.2.2.2.1 = b.2.2.2.2.2.2.2.2.2.2.2.2.1) then loop (F_spec_SameDesk_l4 a b) 0 else some false := by
    intro hl
    refine loop_same o6.1 hl (fun i k x y hx hy hi hm => ?_) (fun k => ?_)
    · simp only [F_spec_SameDesk_l3, int_lt hi, bif_t, ix_get hx, ix_get hy, Option.bind_some, w64_succ hm, nif, Bool.and_true, eq2]
    · simp only [F_spec_SameDesk_l3, int_lt_self, bif_f]
  have q5 : a.2.2.2.2.2.2.2.2.2.2.2.1.length = b.2.2.2.2.2.2.2.2.2.2.2.1.length → loop (F_spec_SameDesk_l2 a b) 0 = bif decide (a.2.2.2.2.2.2.2.2.2.2.2.1 = b.2.2.2.2.2.2.2.2.2.2.2.1) then loop (F_spec_SameDesk_l3 a b) 0 else some false := by
    intro hl
    refine loop_same o5.1 hl (fun i k x y hx hy hi hm => ?_) (fun k => ?_)
    · simp only [F_spec_SameDesk_l2, int_lt hi, bif_t, ix_get hx, ix_get hy, Option.bind_some, w64_succ hm, nif, Bool.and_true, eq2]
    · simp only [F_spec_SameDesk_l2, int_lt_self, bif_f]
  have q4 : a.2.2.2.2.2.2.2.2.2.2.1.length = b.2.2.2.2.2.2.2.2.2.2.1.length → loop (F_spec_SameDesk_l1 a b) 0 = bif decide (a.2.2.2.2.2.2.2.2.2.2.1 = b.2.2.2.2.2.2.2.2.2.2.1) then loop (F_spec_SameDesk_l2 a b) 0 else some false := by
    intro hl
    refine loop_same o4.1 hl (fun i k x y hx hy hi hm => ?_) (fun k => ?_)
    · simp only [F_spec_SameDesk_l1, int_lt hi, bif_t, ix_get hx, ix_get hy, Option.bind_some, w64_succ hm, nif, Bool.and_true, eq2]
    · simp only [F_spec_SameDesk_l1, int_lt_self, bif_f]
  have q3 : a.2.2.2.2.2.2.2.2.2.1.length = b.2.2.2.2.2.2.2.2.2.1.length → loop (F_spec_SameDesk_l0 a b) 0 = bif decide (a.2.2.2.2.2.2.2.2.2.1 = b.2.2.2.2.2.2.2.2.2.1) then loop (F_spec_SameDesk_l1 a b) 0 else some false := by
    intro hl
    refine loop_same o3.1 hl (fun i k x y hx hy hi hm => ?_) (fun k => ?_)
    · simp only [F_spec_SameDesk_l0, int_lt hi, bif_t, ix_get hx, ix_get hy, Option.bind_some, w64_succ hm, l00Same_eq (o3.2 x (get_mem hx)).1, nif]
    · simp only [F_spec_SameDesk_l0, int_lt_self, bif_f]
  have tail : (bif decide ((a.2.2.2.2.2.2.2.2.2.1.length : Int) ≠ (b.2.2.2.2.2.2.2.2.2.1.length : Int)) then some false else bif decide ((a.2.2.2.2.2.2.2.2.2.2.1.length : Int) ≠ (b.2.2.2.2.2.2.2.2.2.2.1.length : Int)) then some false else bif decide ((a.2.2.2.2.2.2.2.2.2.2.2.1.length : Int) ≠ (b.2.2.2.2.2.2.2.2.2.2.2.1.length : Int)) then some false else bif decide ((a.2.2.2.2.2.2.2.2.2.2.2.2.1.length : Int) ≠ (b.2.2.2.2.2.2.2.2.2.2.2.2.1.length : Int)) then some false else bif decide ((a.2.2.2.2.2.2.2.2.2.2.2.2.2.1.length : Int) ≠ (b.2.2.2.2.2.2.2.2.2.2.2.2.2.1.length : Int)) then some false else loop (F_spec_SameDesk_l0 a b) 0)
      = some (decide (a.2.2.2.2.2.2.2.2.2.1 = b.2.2.2.2.2.2.2.2.2.1) && (decide (a.2.2.2.2.2.2.2.2.2.2.1 = b.2.2.2.2.2.2.2.2.2.2.1) && (decide (a.2.2.2.2.2.2.2.2.2.2.2.1 = b.2.2.2.2.2.2.2.2.2.2.2.1) && (decide (a.2.2.2.2.2.2.2.2.2.2.2.2.1 = b.2.2.2.2.2.2.2.2.2.2.2.2.1) && decide (a.2.2.2.2.2.2.2.2.2.2.2.2.2.1 = b.2.2.2.2.2.2.2.2.2.2.2.2.2.1))))) := by
    by_cases h0 : a.2.2.2.2.2.2.2.2.2.1.length = b.2.2.2.2.2.2.2.2.2.1.length
    case neg => rw [ne_len h0]; rw [decide_eq_true (show (((a.2.2.2.2.2.2.2.2.2.1.length : Int)) ≠ (b.2.2.2.2.2.2.2.2.2.1.length : Int)) by omega), bif_t]; simp
    rw [decide_eq_false (show ¬ (((a.2.2.2.2.2.2.2.2.2.1.length : Int)) ≠ (b.2.2.2.2.2.2.2.2.2.1.length : Int)) by omega), bif_f]
    by_cases h1 : a.2.2.2.2.2.2.2.2.2.2.1.length = b.2.2.2.2.2.2.2.2.2.2.1.length
    case neg => rw [ne_len h1]; rw [decide_eq_true (show (((a.2.2.2.2.2.2.2.2.2.2.1.length : Int)) ≠ (b.2.2.2.2.2.2.2.2.2.2.1.length : Int)) by omega), bif_t]; simp
    rw [decide_eq_false (show ¬ (((a.2.2.2.2.2.2.2.2.2.2.1.length : Int)) ≠ (b.2.2.2.2.2.2.2.2.2.2.1.length : Int)) by omega), bif_f]
    by_cases h2 : a.2.2.2.2.2.2.2.2.2.2.2.1.length = b.2.2.2.2.2.2.2.2.2.2.2.1.length
    case neg => rw [ne_len h2]; rw [decide_eq_true (show (((a.2.2.2.2.2.2.2.2.2.2.2.1.length : Int)) ≠ (b.2.2.2.2.2.2.2.2.2.2.2.1.length : Int)) by omega), bif_t]; simp
    rw [decide_eq_false (show ¬ (((a.2.2.2.2.2.2.2.2.2.2.2.1.length : Int)) ≠ (b.2.2.2.2.2.2.2.2.2.2.2.1.length : Int)) by omega), bif_f]
    by_cases h3 : a.2.2.2.2.2.2.2.2.2.2.2.2.1.length = b.2.2.2.2.2.2.2.2.2.2.2.2.1.length
    case neg => rw [ne_len h3]; rw [decide_eq_true (show (((a.2.2.2.2.2.2.2.2.2.2.2.2.1.length : Int)) ≠ (b.2.2.2.2.2.2.2.2.2.2.2.2.1.length : Int)) by omega), bif_t]; simp
    rw [decide_eq_false (show ¬ (((a.2.2.2.2.2.2.2.2.2.2.2.2.1.length : Int)) ≠ (b.2.2.2.2.2.2.2.2.2.2.2.2.1.length : Int)) by omega), bif_f]
    by_cases h4 : a.2.2.2.2.2.2.2.2.2.2.2.2.2.1.length = b.2.2.2.2.2.2.2.2.2.2.2.2.2.1.length
    case neg => rw [ne_len h4]; rw [decide_eq_true (show (((a.2.2.2.2.2.2.2.2.2.2.2.2.2.1.length : Int)) ≠ (b.2.2.2.2.2.2.2.2.2.2.2.2.2.1.length : Int)) by omega), bif_t]; simp
    rw [decide_eq_false (show ¬ (((a.2.2.2.2.2.2.2.2.2.2.2.2.2.1.length : Int)) ≠ (b.2.2.2.2.2.2.2.2.2.2.2.2.2.1.length : Int)) by omega), bif_f]
    rw [q3 h0, q4 h1, q5 h2, q6 h3, q7 h4]
    cases decide (a.2.2.2.2.2.2.2.2.2.1 = b.2.2.2.2.2.2.2.2.2.1) <;> cases decide (a.2.2.2.2.2.2.2.2.2.2.1 = b.2.2.2.2.2.2.2.2.2.2.1) <;> cases decide (a.2.2.2.2.2.2.2.2.2.2.2.1 = b.2.2.2.2.2.2.2.2.2.2.2.1) <;> cases decide (a.2.2.2.2.2.2.2.2.2.2.2.2.1 = b.2.2.2.2.2.2.2.2.2.2.2.2.1) <;> cases decide (a.2.2.2.2.2.2.2.2.2.2.2.2.2.1 = b.2.2.2.2.2.2.2.2.2.2.2.2.2.1) <;> rfl
  unfold F_spec_SameDesk F_impl_SameDesk F_spec_SameMelody
  rw [specRaga_eq o0, implRaga_eq o0, l09Same_eq o1.1, EqN o1.1, specTuning_eq o2, implTuning_eq o2, specPersons_eq o8, implPersons_eq o8, EqII o3, EqY o4.1, EqT o5.1, EqM o6.1, EqL o7.1, tail]
  simp only [Option.bind_some, nif]
  generalize ragaB _ _ = r
  generalize tunB _ _ = t
  generalize decide (a.2.2.2.2.2.2.1 = b.2.2.2.2.2.2.1) = m
  generalize decide (a.2.2.2.2.2.2.2.2.2.2.2.2.2.2 = b.2.2.2.2.2.2.2.2.2.2.2.2.2.2) = p
  generalize decide (a.2.2.2.2.2.2.2.2.2.1 = b.2.2.2.2.2.2.2.2.2.1) = x0
  generalize decide (a.2.2.2.2.2.2.2.2.2.2.1 = b.2.2.2.2.2.2.2.2.2.2.1) = x1
  generalize decide (a.2.2.2.2.2.2.2.2.2.2.2.1 = b.2.2.2.2.2.2.2.2.2.2.2.1) = x2
  generalize decide (a.2.2.2.2.2.2.2.2.2.2.2.2.1 = b.2.2.2.2.2.2.2.2.2.2.2.2.1) = x3
  generalize decide (a.2.2.2.2.2.2.2.2.2.2.2.2.2.1 = b.2.2.2.2.2.2.2.2.2.2.2.2.2.1) = x4
  refine ⟨r && (m && (t && (p && (x0 && (x1 && (x2 && (x3 && x4))))))), ?_, ?_, trivial⟩ <;> cases r <;> cases m <;> cases t <;> cases p <;> cases x0 <;> cases x1 <;> cases x2 <;> cases x3 <;> cases x4 <;> rfl
end Go.Ab
