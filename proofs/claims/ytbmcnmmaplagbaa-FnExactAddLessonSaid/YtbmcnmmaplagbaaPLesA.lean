/- Lessons: what is asked of them, their pupils (own text). -/
import Derived.Test.YtbmcnmmaplagbaaPSorted
import Derived.Test.YtbmcnmmaplagbaaPWithin
import Derived.Test.YtbmcnmmaplagbaaPAdj
set_option linter.unusedVariables false
set_option linter.unusedSimpArgs false
namespace Go.Ab
open Go.RowKit
def lesOk (a : TLesson) : Bool := decide (0 ≤ a.1 ∧ a.1 ≤ 100000) && (nameOk a.2.1 && (nameOk a.2.2.1 && (decide (1 ≤ a.2.2.2.1 ∧ a.2.2.2.1 ≤ 480) && decide (0 ≤ a.2.2.2.2 ∧ a.2.2.2.2 ≤ 100))))
def lesBef (a b : TLesson) : Bool := if a.1 ≠ b.1 then decide (a.1 < b.1) else if a.2.1 ≠ b.2.1 then decide (a.2.1 < b.2.1) else decide (a.2.2.1 < b.2.2.1)
theorem l28One_eq {a : TLesson} (h : OkLesson a) : F_spec_l28One a = some (lesOk a) := by
  obtain ⟨_, h1, h2, _⟩ := h
  unfold F_spec_l28One lesOk
  rw [l00In_eq, l00In_eq, l00In_eq, l01Name_eq _ h1, l01Name_eq _ h2]
  simp only [Option.bind_some]
  cases decide (0 ≤ a.1 ∧ a.1 ≤ 100000) <;> cases nameOk a.2.1 <;> cases nameOk a.2.2.1 <;> cases decide (1 ≤ a.2.2.2.1 ∧ a.2.2.2.1 ≤ 480) <;> rfl
theorem Lvalid_eq {a : TLesson} (h : OkLesson a) : F_impl_Lesson_valid a = some (lesOk a) := by
  obtain ⟨_, h1, h2, _⟩ := h
  unfold F_impl_Lesson_valid lesOk
  rw [within_eq, within_eq, within_eq, IsName_eq _ h1, IsName_eq _ h2]
  simp only [Option.bind_some]
  cases decide (0 ≤ a.1 ∧ a.1 ≤ 100000) <;> cases nameOk a.2.1 <;> cases nameOk a.2.2.1 <;> cases decide (1 ≤ a.2.2.2.1 ∧ a.2.2.2.1 ≤ 480) <;> rfl
theorem l28Before_eq (a b : TLesson) : F_spec_l28Before a b = some (lesBef a b) := by
  unfold F_spec_l28Before lesBef
  simp only [bif_dec, less_eq]
  split
  · rfl
  · split <;> rfl
def cmpI (a b : Int) : Int := if a < b then -1 else if b < a then 1 else 0
def cmpT (a b : Str) : Int := if a < b then -1 else if a = b then 0 else 1
theorem cmpI_eq (a b : Int) : F_cmp_Compare_int64 a b = some (cmpI a b) := by
  unfold F_cmp_Compare_int64 F_cmp_isNaN_int64 cmpI
  simp only [ne_eq, not_true_eq_false, decide_false, Option.bind_some, bif_f, bif_dec]
  split
  · rfl
  · split <;> rfl
theorem cmpT_eq (a b : Str) : F_cmp_Compare_string a b = some (cmpT a b) := by
  unfold F_cmp_Compare_string F_cmp_isNaN_string cmpT
  simp only [ne_eq, not_true_eq_false, decide_false, Option.bind_some, bif_f, less_eq]
  by_cases h : a < b
  · simp [h]
  · by_cases h2 : a = b
    · subst h2; simp [h]
    · simp [h, h2]
def or3 (x y z : Int) : Int := if x ≠ 0 then x else if y ≠ 0 then y else z
theorem Or3_eq (x y z : Int) : F_cmp_Or_int [x, y, z] = some (or3 x y z) := by
  unfold F_cmp_Or_int
  have := loop_sfx (body := F_cmp_Or_int_l0 [x, y, z]) (L := [x, y, z]) (fun t => (t.find? (fun z => decide (z ≠ 0))).getD 0) (by simp) ?_ ?_
  · rw [this]
    unfold or3
    by_cases h : x = 0 <;> by_cases h2 : y = 0 <;> by_cases h3 : z = 0 <;> simp [List.find?, h, h2, h3]
  · intro i k a t ha hi hk
    simp only [F_cmp_Or_int_l0, int_lt (get_lt ha), bif_t, ix_get ha, Option.bind_some, w64_succ hi, bif_dec, hk]
    by_cases h : a = 0 <;> simp [List.find?, h]
  · intro k
    simp only [F_cmp_Or_int_l0, int_lt_self, bif_f]
    rfl
theorem compare_bef (a b : TLesson) : ∃ c, F_impl_compareLessons a b = some c ∧ (decide (0 ≤ c) = !lesBef a b) := by
  refine ⟨or3 (cmpI a.1 b.1) (cmpT a.2.1 b.2.1) (cmpT a.2.2.1 b.2.2.1), ?_, ?_⟩
  · unfold F_impl_compareLessons
    rw [cmpI_eq, cmpT_eq, cmpT_eq]
    simp only [Option.bind_some, Or3_eq]
  · unfold or3 lesBef cmpI cmpT
    by_cases h1 : a.1 < b.1
    · have : a.1 ≠ b.1 := by omega
      simp [h1, this]
    · by_cases h2 : b.1 < a.1
      · have : a.1 ≠ b.1 := by omega
        simp [h1, h2, this]
      · have e : a.1 = b.1 := by omega
        simp only [e, Int.lt_irrefl, if_false, ne_eq, not_true_eq_false]
        by_cases h3 : a.2.1 = b.2.1
        · have e3 : ¬ b.2.1 < b.2.1 := List.lt_irrefl _
          simp only [h3, e3, if_false, if_true, not_true_eq_false]
          by_cases h4 : a.2.2.1 < b.2.2.1
          · simp [h4]
          · by_cases h5 : a.2.2.1 = b.2.2.1
            · have e5 : ¬ b.2.2.1 < b.2.2.1 := List.lt_irrefl _
              simp [h5, e5]
            · simp [h4, h5]
        · by_cases h4 : a.2.1 < b.2.1 <;> simp [h3, h4]
/-- Of a list of names: each once, in order. -/
theorem pups_ex {A : List TLesson} (hA : A.length ≤ 100000) : ∃ R, F_spec_l28Pupils A = some R ∧ F_impl_pupilsOf A = some R ∧ srtS R ∧ ∀ y, y ∈ R ↔ ∃ a ∈ A, a.2.1 = y := by
  obtain ⟨R, h1, h2, h3⟩ : ∃ R, F_spec_l28Pupils A = some R ∧ (srtS R ∧ ∀ y, y ∈ R ↔ ∃ a ∈ A, a.2.1 = y) := by
    unfold F_spec_l28Pupils
    refine loop_ex (L := A) (fun i s => s.1 = (i : Int) ∧ srtS s.2 ∧ s.2.length ≤ i ∧ ∀ y, y ∈ s.2 ↔ ∃ a ∈ A.take i, a.2.1 = y) (by omega) ⟨rfl, List.Pairwise.nil, by simp, by simp⟩ ?_ ?_
    · rintro i ⟨_, B⟩ K a ha hi ⟨rfl, g1, g2, g3⟩ hK
      dsimp only at g1 g2 g3
      have hlt := get_lt ha
      obtain ⟨S, e, q1, q2⟩ := put_ex g1 a.2.1 (by omega)
      simp only [F_spec_l28Pupils_l0, int_lt hlt, bif_t, ix_get ha, Option.bind_some, e, w64_succ hi]
      refine hK _ ⟨rfl, q1, ?_, fun y => ?_⟩
      · have hd : S.Nodup := q1.imp fun h => lt_ne h
        have := hd.length_le_of_subset (l₂ := B ++ [a.2.1]) (fun y hy => by
          rcases (q2 y).1 hy with h | h
          · exact List.mem_append_left _ h
          · exact List.mem_append_right _ (by rw [h]; exact List.mem_singleton.2 rfl))
        simp only [List.length_append, List.length_singleton] at this
        dsimp only; omega
      · rw [q2, g3, take_succ ha]
        constructor
        · rintro (⟨x, hx, e⟩ | h)
          · exact ⟨x, List.mem_append_left _ hx, e⟩
          · exact ⟨a, List.mem_append_right _ (List.mem_singleton.2 rfl), h.symm⟩
        · rintro ⟨x, hx, e⟩
          rcases List.mem_append.1 hx with h | h
          · exact .inl ⟨x, h, e⟩
          · rw [List.mem_singleton.1 h] at e; exact .inr e.symm
    · rintro ⟨_, B⟩ K ⟨rfl, g1, g2, g3⟩
      rw [take_all (Nat.le_refl _)] at g3
      simp only [F_spec_l28Pupils_l0, int_lt_self, bif_f]
      exact ⟨_, rfl, g1, g3⟩
  obtain ⟨S, q1, q2, q3⟩ := sc_ex ((A.filter fun _ => true).map (·.2.1)) (by rw [List.length_map]; exact Nat.le_trans (List.length_filter_le _ _) (by omega)) (some : List Str → Option (List Str))
  have e : S = R := srt_uniq q2 h2 fun y => by rw [q3, h3]; simp
  refine ⟨R, h1, ?_, h2, h3⟩
  unfold F_impl_pupilsOf
  refine loop_coll (A := A) (fun _ => true) (·.2.1) (by omega) ?_ ?_
  · intro i B k a ha hi hB hlt
    have hr : room (B.length + [a.2.1].length) 16 := by constructor <;> simp only [List.length_singleton] <;> omega
    simp only [F_impl_pupilsOf_l0, int_lt hlt, bif_t, ix_get ha, Option.bind_some, need_true hr, w64_succ hi]
  · intro k
    simp only [F_impl_pupilsOf_l0, int_lt_self, bif_f]
    rw [← e]
    exact q1
/-- Valid lessons. -/
structure VL (A : List TLesson) : Prop where
  len : A.length ≤ 64
  one : ∀ a ∈ A, lesOk a = true
  adj : ∀ (i : Nat) x y, A[i]? = some x → A[i + 1]? = some y → lesBef x y = true
theorem lessons_eq {A : List TLesson} (hA : (OkL OkLesson) A) (hs : A.length ≤ 1048576) : ∃ r, F_spec_l28Ok A = some r ∧ F_impl_ValidLessons A = some r ∧ (r = true → VL A) := by
  have h1 := hA.1
  have i1 : loop (F_impl_ValidLessons_l0 A) 0 = some (adj lesOk lesBef none A && true) := by
    refine loop_adj h1 ?_ ?_ ?_
    · intro k a ha
      have h0 : (0 : Int) = ((0 : Nat) : Int) := rfl
      rw [h0]
      simp only [F_impl_ValidLessons_l0, int_lt (get_lt ha), bif_t, ix_get ha, Option.bind_some, Lvalid_eq (hA.2 a (get_mem ha))]
      cases lesOk a <;> rfl
    · intro i k q a hq ha hi
      obtain ⟨c, e, hc⟩ := compare_bef q a
      simp only [F_impl_ValidLessons_l0, int_lt (get_lt ha), bif_t, ix_get ha, Option.bind_some, Lvalid_eq (hA.2 a (get_mem ha)), w64_pred (show i < 9223372036854775807 by omega), w64_succ hi, ix_get hq, e, hc]
      rw [decide_eq_true (show (0 : Int) < ((i + 1 : Nat) : Int) by omega), bif_t]
      cases lesOk a <;> cases lesBef q a <;> rfl
    · intro k; simp only [F_impl_ValidLessons_l0, int_lt_self, bif_f]
  have s1 : ∀ fin, (∀ k, F_spec_l28Ok_l0 A k (A.length : Int) = some fin) → F_spec_l28Ok A = some (adj lesOk lesBef none A && fin) := by
    intro fin hf
    unfold F_spec_l28Ok
    refine loop_adj h1 ?_ ?_ hf
    · intro k a ha
      have h0 : (0 : Int) = ((0 : Nat) : Int) := rfl
      rw [h0]
      simp only [F_spec_l28Ok_l0, int_lt (get_lt ha), bif_t, ix_get ha, Option.bind_some, l28One_eq (hA.2 a (get_mem ha))]
      cases lesOk a <;> rfl
    · intro i k q a hq ha hi
      simp only [F_spec_l28Ok_l0, int_lt (get_lt ha), bif_t, ix_get ha, Option.bind_some, l28One_eq (hA.2 a (get_mem ha)), w64_pred (show i < 9223372036854775807 by omega), w64_succ hi, ix_get hq, l28Before_eq]
      rw [decide_eq_true (show (0 : Int) < ((i + 1 : Nat) : Int) by omega), bif_t]
      cases lesOk a <;> cases lesBef q a <;> rfl
  by_cases h64 : A.length ≤ 64
  · obtain ⟨R, p1, p2, _, _⟩ := pups_ex (A := A) (by omega)
    refine ⟨adj lesOk lesBef none A && decide ((R.length : Int) ≤ 12), s1 _ ?_, ?_, ?_⟩
    · intro k
      simp only [F_spec_l28Ok_l0, int_lt_self, bif_f]
      rw [decide_eq_true (by omega), bif_t, p1]; rfl
    · unfold F_impl_ValidLessons
      rw [decide_eq_false (by omega), bif_f, p2, Option.bind_some, i1]
      by_cases h : (12 : Int) < R.length
      · rw [decide_eq_true h, bif_t, decide_eq_false (by omega), Bool.and_false]
      · rw [decide_eq_false h, bif_f, decide_eq_true (by omega)]
    · intro hr
      obtain ⟨g1, g2⟩ := adj_all (Bool.and_eq_true_iff.1 hr).1
      exact ⟨h64, g1, g2⟩
  · refine ⟨false, ?_, ?_, fun h => by cases h⟩
    · rw [s1 false, Bool.and_false]
      intro k
      simp only [F_spec_l28Ok_l0, int_lt_self, bif_f]
      rw [decide_eq_false (by omega), bif_f]
    · unfold F_impl_ValidLessons
      rw [decide_eq_true (by omega), bif_t]
end Go.Ab
