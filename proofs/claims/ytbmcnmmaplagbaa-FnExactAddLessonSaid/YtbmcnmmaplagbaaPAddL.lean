/- AddLesson: the program's and the reference's (own text). -/
import Derived.Test.YtbmcnmmaplagbaaPLesA
import Derived.Test.YtbmcnmmaplagbaaPSearch
set_option linter.unusedVariables false
set_option linter.unusedSimpArgs false
namespace Go.Ab
open Go.RowKit
theorem room56 {n : Nat} (h : n ≤ 100000) : room n 56 := ⟨by omega, by omega⟩
theorem CloneL_eq {A : List TLesson} (h : room A.length 56) : F_slices_Clone_SLesson_Lesson A = some A := by
  unfold F_slices_Clone_SLesson_Lesson
  have e : F_slices_Clone_SLesson_Lesson_j0 A = some A := by unfold F_slices_Clone_SLesson_Lesson_j0; rw [need_true h]
  rw [e, bif_dec]
  split
  · rename_i h0
    have : A = [] := List.eq_nil_of_length_eq_zero (by omega)
    subst this
    exact both_eq rfl
  · rfl
theorem bef_iff (a b : TLesson) : lesBef a b = true ↔ a.1 < b.1 ∨ (a.1 = b.1 ∧ (a.2.1 < b.2.1 ∨ (a.2.1 = b.2.1 ∧ a.2.2.1 < b.2.2.1))) := by
  unfold lesBef
  by_cases h1 : a.1 = b.1
  · by_cases h2 : a.2.1 = b.2.1
    · have e : ¬ b.2.1 < b.2.1 := List.lt_irrefl _
      simp [h1, h2, e]
    · simp [h1, h2]
  · simp [h1]
theorem lbef_trans {a b c : TLesson} (h1 : lesBef a b = true) (h2 : lesBef b c = true) : lesBef a c = true := by
  rw [bef_iff] at *
  rcases h1 with h1 | ⟨e1, h1⟩
  · rcases h2 with h2 | ⟨e2, h2⟩
    · exact .inl (by omega)
    · exact .inl (by omega)
  · rcases h2 with h2 | ⟨e2, h2⟩
    · exact .inl (by omega)
    · refine .inr ⟨by omega, ?_⟩
      rcases h1 with h1 | ⟨f1, h1⟩
      · rcases h2 with h2 | ⟨f2, h2⟩
        · exact .inl (List.lt_trans h1 h2)
        · exact .inl (by rw [← f2]; exact h1)
      · rcases h2 with h2 | ⟨f2, h2⟩
        · exact .inl (by rw [f1]; exact h2)
        · exact .inr ⟨f1.trans f2, List.lt_trans h1 h2⟩
def lesKey (a b : TLesson) : Prop := a.1 = b.1 ∧ a.2.1 = b.2.1 ∧ a.2.2.1 = b.2.2.1
theorem lbef_irr (a : TLesson) : lesBef a a = false := by
  cases h : lesBef a a
  · rfl
  · rw [bef_iff] at h
    rcases h with h | ⟨_, h | ⟨_, h⟩⟩
    · omega
    · exact absurd h (List.lt_irrefl _)
    · exact absurd h (List.lt_irrefl _)
theorem str_tri (x y : Str) : x < y ∨ x = y ∨ y < x := by
  by_cases h : x < y
  · exact .inl h
  · by_cases h2 : x = y
    · exact .inr (.inl h2)
    · exact .inr (.inr (lt_of_le h h2))
theorem les_tri (a b : TLesson) : lesBef a b = true ∨ lesKey a b ∨ lesBef b a = true := by
  rw [bef_iff, bef_iff]
  unfold lesKey
  rcases Int.lt_trichotomy a.1 b.1 with h | h | h
  · exact .inl (.inl h)
  · rcases str_tri a.2.1 b.2.1 with g | g | g
    · exact .inl (.inr ⟨h, .inl g⟩)
    · rcases str_tri a.2.2.1 b.2.2.1 with k | k | k
      · exact .inl (.inr ⟨h, .inr ⟨g, k⟩⟩)
      · exact .inr (.inl ⟨h, g, k⟩)
      · exact .inr (.inr (.inr ⟨h.symm, .inr ⟨g.symm, k⟩⟩))
    · exact .inr (.inr (.inr ⟨h.symm, .inl g⟩))
  · exact .inr (.inr (.inl h))
def lesCmp (a b : TLesson) : Int := or3 (cmpI a.1 b.1) (cmpT a.2.1 b.2.1) (cmpT a.2.2.1 b.2.2.1)
theorem compareL_eq (a b : TLesson) : F_impl_compareLessons a b = some (lesCmp a b) := by
  unfold F_impl_compareLessons
  rw [cmpI_eq, cmpT_eq, cmpT_eq]
  simp only [Option.bind_some, Or3_eq]
  rfl
theorem lesCmp_neg (a b : TLesson) : lesCmp a b < 0 ↔ lesBef a b = true := by
  obtain ⟨c, e, h⟩ := compare_bef a b
  rw [compareL_eq] at e
  cases e
  cases hb : lesBef a b
  · rw [hb] at h
    have := of_decide_eq_true h
    simp; omega
  · rw [hb] at h
    have := of_decide_eq_false h
    simp; omega
theorem lesCmp_zero (a b : TLesson) : lesCmp a b = 0 ↔ lesKey a b := by
  have ci : cmpI a.1 b.1 = 0 ↔ a.1 = b.1 := by unfold cmpI; split <;> (try split) <;> omega
  have ct : ∀ x y : Str, cmpT x y = 0 ↔ x = y := by
    intro x y
    unfold cmpT
    by_cases h : x < y
    · simp [h, lt_ne h]
    · by_cases h2 : x = y <;> simp [h, h2]
  unfold lesCmp or3 lesKey
  by_cases h1 : a.1 = b.1
  · rw [if_neg (by simp [ci.2 h1])]
    by_cases h2 : a.2.1 = b.2.1
    · rw [if_neg (by simp [(ct _ _).2 h2]), ct]; simp [h1, h2]
    · rw [if_pos (fun e => h2 ((ct _ _).1 e)), ct]; simp [h2]
  · rw [if_pos (fun e => h1 (ci.1 e)), ci]; simp [h1]
theorem les_pw {A : List TLesson} : (∀ (i j : Nat) x y, i < j → A[i]? = some x → A[j]? = some y → lesBef x y = true) ↔ List.Pairwise (fun x y => lesBef x y = true) A := by
  rw [List.pairwise_iff_getElem]
  constructor
  · intro h i j hi hj hij
    exact h i j _ _ hij (List.getElem?_eq_getElem hi) (List.getElem?_eq_getElem hj)
  · intro h i j x y hij hx hy
    have h1 := get_lt hx
    have h2 := get_lt hy
    have := h i j h1 h2 hij
    rw [List.getElem?_eq_getElem h1] at hx
    rw [List.getElem?_eq_getElem h2] at hy
    cases hx; cases hy; exact this
theorem les_srt {A : List TLesson} (h : ∀ (i : Nat) x y, A[i]? = some x → A[i + 1]? = some y → lesBef x y = true) : ∀ (d i : Nat) x y, A[i]? = some x → A[i + d + 1]? = some y → lesBef x y = true
  | 0, i, x, y, hx, hy => h i x y hx hy
  | d + 1, i, x, y, hx, hy => by
    obtain ⟨z, hz⟩ := get_some (L := A) (n := i + d + 1) (by have := get_lt hy; omega)
    exact lbef_trans (les_srt h d i x z hx hz) (h _ z y hz hy)
theorem adj_of {α : Type} {one : α → Bool} {bef : α → α → Bool} : ∀ {A : List α} {p : Option α}, (∀ x ∈ A, one x = true) → (∀ (i : Nat) x y, A[i]? = some x → A[i + 1]? = some y → bef x y = true) → (∀ q x, p = some q → A[0]? = some x → bef q x = true) → adj one bef p A = true
  | [], p, _, _, _ => by cases p <;> rfl
  | a :: A, p, h1, h2, h3 => by
    have ih := adj_of (A := A) (p := some a) (fun x hx => h1 x (List.mem_cons_of_mem _ hx)) (fun i x y hx hy => h2 (i + 1) x y (by simpa using hx) (by simpa using hy)) (fun q x hq hx => by
      cases hq
      exact h2 0 a x rfl (by simpa using hx))
    cases p with
    | none => simp [adj, h1 a List.mem_cons_self, ih]
    | some q => simp [adj, h1 a List.mem_cons_self, h3 q a rfl rfl, ih]
theorem ok_adj {A : List TLesson} (hA : (OkL OkLesson) A) {fin : Bool} (hf : ∀ k, F_spec_l28Ok_l0 A k (A.length : Int) = some fin) : F_spec_l28Ok A = some (adj lesOk lesBef none A && fin) := by
  unfold F_spec_l28Ok
  refine loop_adj hA.1 ?_ ?_ hf
  · intro k a ha
    have h0 : (0 : Int) = ((0 : Nat) : Int) := rfl
    rw [h0]
    simp only [F_spec_l28Ok_l0, int_lt (get_lt ha), bif_t, ix_get ha, Option.bind_some, l28One_eq (hA.2 a (get_mem ha))]
    cases lesOk a <;> rfl
  · intro i k q a hq ha hi
    simp only [F_spec_l28Ok_l0, int_lt (get_lt ha), bif_t, ix_get ha, Option.bind_some, l28One_eq (hA.2 a (get_mem ha)), w64_pred (show i < 9223372036854775807 by omega), w64_succ hi, ix_get hq, l28Before_eq]
    rw [decide_eq_true (show (0 : Int) < ((i + 1 : Nat) : Int) by omega), bif_t]
    cases lesOk a <;> cases lesBef q a <;> rfl
/-- Where a lesson stands, or would. -/
def cutL (A : List TLesson) (t : TLesson) : Nat := cut (fun x => lesCmp x t) A
def hasL (A : List TLesson) (t : TLesson) : Bool := match A[cutL A t]? with
  | some x => decide (lesCmp x t = 0)
  | none => false
theorem searchL_eq {A : List TLesson} (hs : ∀ (i j : Nat) x y, i < j → A[i]? = some x → A[j]? = some y → lesBef x y = true) (hA : A.length ≤ 1000) (t : TLesson) : F_slices_BinarySearchFunc_SLesson_Lesson A t = some ((cutL A t : Int), hasL A t) := by
  unfold F_slices_BinarySearchFunc_SLesson_Lesson
  refine loop_search (A := A) (c := fun x => lesCmp x t) (fun n => ((n : Int), match A[n]? with
    | some x => decide (lesCmp x t = 0)
    | none => false)) (by omega) ?_ ?_ ?_
  · intro i j x y hij hx hy hc
    exact (lesCmp_neg x t).2 (lbef_trans (hs i j x y hij hx hy) ((lesCmp_neg y t).1 hc))
  · intro i j k x hij hj hx
    have hlt : decide ((i : Int) < (j : Int)) = true := decide_eq_true (by omega)
    have e : w64 ((((i + j) / 2 : Nat) : Int) + 1) = (((i + j) / 2 + 1 : Nat) : Int) := w64_succ (by omega)
    simp only [F_slices_BinarySearchFunc_SLesson_Lesson_l0, hlt, bif_t, need_true (show (0 : Int) ≤ 1 by omega), half_eq i j (by omega), ix_get hx, Option.bind_some, compareL_eq, e]
  · intro i k hi
    simp only [F_slices_BinarySearchFunc_SLesson_Lesson_l0, Int.lt_irrefl, decide_false, bif_f]
    rcases Nat.lt_or_ge i A.length with h1 | h1
    · obtain ⟨x, hx⟩ := get_some (L := A) (n := i) h1
      simp only [int_lt h1, bif_t, ix_get hx, Option.bind_some, compareL_eq, hx]
    · have : A[i]? = none := List.getElem?_eq_none h1
      have hn : decide ((i : Int) < (A.length : Int)) = false := decide_eq_false (by omega)
      simp only [hn, bif_f, this]
def insL (A : List TLesson) (t : TLesson) : List TLesson := A.take (cutL A t) ++ [t] ++ A.drop (cutL A t)
theorem cutL_le (A : List TLesson) (t : TLesson) : cutL A t ≤ A.length := cut_le _ _
theorem insL_len (A : List TLesson) (t : TLesson) : (insL A t).length = A.length + 1 := by
  have := cutL_le A t
  unfold insL
  simp; omega
theorem insL_pw {A : List TLesson} (hs : ∀ (i j : Nat) x y, i < j → A[i]? = some x → A[j]? = some y → lesBef x y = true) {t : TLesson} (hh : hasL A t = false) : List.Pairwise (fun x y => lesBef x y = true) (insL A t) := by
  have hp := les_pw.1 hs
  have h1 : ∀ x ∈ A.take (cutL A t), lesBef x t = true := by
    intro x hx
    obtain ⟨k, hk⟩ := List.mem_iff_getElem?.1 hx
    rw [List.getElem?_take] at hk
    split at hk
    · exact (lesCmp_neg x t).1 (cut_lt (c := fun x => lesCmp x t) hk (by assumption))
    · cases hk
  have h2 : ∀ x ∈ A.drop (cutL A t), lesBef t x = true := by
    intro x hx
    obtain ⟨k, hk⟩ := List.mem_iff_getElem?.1 hx
    rw [List.getElem?_drop] at hk
    have hlt := get_lt hk
    obtain ⟨y, hy⟩ := get_some (L := A) (n := cutL A t) (by omega)
    have g1 : ¬ lesBef y t = true := fun h => cut_at (c := fun x => lesCmp x t) hy ((lesCmp_neg y t).2 h)
    have g2 : ¬ lesKey y t := fun h => by
      unfold hasL at hh
      rw [hy] at hh
      simp only [decide_eq_false_iff_not] at hh
      exact hh ((lesCmp_zero y t).2 h)
    have g3 : lesBef t y = true := by
      rcases les_tri y t with h | h | h
      · exact absurd h g1
      · exact absurd h g2
      · exact h
    cases k with
    | zero => rw [Nat.add_zero, hy] at hk; cases hk; exact g3
    | succ k => exact lbef_trans g3 (hs _ _ y x (by omega) hy hk)
  unfold insL
  rw [List.append_assoc, List.pairwise_append]
  refine ⟨hp.sublist (List.take_sublist _ _), List.pairwise_cons.2 ⟨h2, hp.sublist (List.drop_sublist _ _)⟩, ?_⟩
  intro x hx y hy
  rcases List.mem_cons.1 hy with h | h
  · rw [h]; exact h1 x hx
  · exact lbef_trans (h1 x hx) (h2 y h)
theorem ct_less {A : List TLesson} (h : A.length ≤ 1000) : (SmL CtLesson) A := ⟨by omega, fun _ _ => ⟨trivial, trivial, trivial, trivial, trivial⟩⟩
theorem core_AddLesson (A : List TLesson) (t : TLesson) (oA : (OkL OkLesson) A) (ot : OkLesson t) (sA : (SmL SmLesson) A) (st : SmLesson t) :
    ∃ w, F_spec_AddLesson A t = some w ∧ F_impl_AddLesson A t = some w ∧ (SmL CtLesson) w.1 := by
  obtain ⟨r, s1, s2, s3⟩ := lessons_eq oA (by have := sA.1; omega)
  unfold F_spec_AddLesson F_impl_AddLesson
  rw [s1, s2]
  simp only [Option.bind_some]
  cases r with
  | false => exact ⟨([], 1), rfl, rfl, ct_less (by simp)⟩
  | true =>
    have hV := s3 rfl
    have h64 := hV.len
    have hs : ∀ (i j : Nat) x y, i < j → A[i]? = some x → A[j]? = some y → lesBef x y = true := fun i j x y hij hx hy => les_srt hV.adj (j - i - 1) i x y hx (by rw [show i + (j - i - 1) + 1 = j by omega]; exact hy)
    have hc := cutL_le A t
    simp only [Bool.not_true, bif_f, searchL_eq hs (show A.length ≤ 1000 by omega), l28One_eq ot, Lvalid_eq ot, Option.bind_some]
    cases ht : lesOk t
    · exact ⟨([], 2), rfl, rfl, ct_less (by simp)⟩
    simp only [Bool.not_true, bif_f]
    -- the reference finds the place
    have place : loop (F_spec_AddLesson_l2 A t) 0 = F_spec_AddLesson_j1 A t (cutL A t : Int) := by
      have key : ∀ (d i : Nat), i + d = cutL A t → ∀ N, d < N → iter (F_spec_AddLesson_l2 A t) N (i : Int) = F_spec_AddLesson_j1 A t (cutL A t : Int) := by
        intro d
        induction d with
        | zero =>
          intro i hi N hN
          obtain ⟨N, rfl⟩ : ∃ M, N = M + 1 := ⟨N - 1, by omega⟩
          obtain rfl : i = cutL A t := by omega
          rw [iter]
          rcases Nat.lt_or_ge (cutL A t) A.length with h | h
          · obtain ⟨x, hx⟩ := get_some (L := A) (n := cutL A t) h
            have hb : lesBef x t = false := by
              cases hb : lesBef x t
              · rfl
              · exact absurd ((lesCmp_neg x t).2 hb) (cut_at (c := fun x => lesCmp x t) hx)
            simp only [F_spec_AddLesson_l2, int_lt h, bif_t, ix_get hx, Option.bind_some, l28Before_eq, hb, bif_f]
          · have hn : decide (((cutL A t : Nat) : Int) < (A.length : Int)) = false := decide_eq_false (by omega)
            simp only [F_spec_AddLesson_l2, hn, bif_f]
        | succ d ih =>
          intro i hi N hN
          obtain ⟨N, rfl⟩ : ∃ M, N = M + 1 := ⟨N - 1, by omega⟩
          obtain ⟨x, hx⟩ := get_some (L := A) (n := i) (by omega)
          have hb : lesBef x t = true := (lesCmp_neg x t).1 (cut_lt (c := fun x => lesCmp x t) hx (show i < cutL A t by omega))
          rw [iter]
          simp only [F_spec_AddLesson_l2, int_lt (get_lt hx), bif_t, ix_get hx, Option.bind_some, l28Before_eq, hb, w64_succ (show i < 9223372036854775807 by omega)]
          exact ih (i + 1) (by omega) N (by omega)
      exact key (cutL A t) 0 (by omega) lim (lt_lim (by omega))
    rw [place]
    have j1 : F_spec_AddLesson_j1 A t (cutL A t : Int) = if hasL A t = true then some ([], 4) else F_spec_AddLesson_j3 A t (cutL A t : Int) := by
      unfold F_spec_AddLesson_j1
      rcases Nat.lt_or_ge (cutL A t) A.length with h | h
      · obtain ⟨x, hx⟩ := get_some (L := A) (n := cutL A t) h
        have hh : hasL A t = decide (lesCmp x t = 0) := by unfold hasL; rw [hx]
        have hb : ¬ lesBef x t = true := fun hb => cut_at (c := fun x => lesCmp x t) hx ((lesCmp_neg x t).2 hb)
        rw [int_lt h, bif_t, ix_get hx, Option.bind_some, l28Before_eq, Option.bind_some, hh]
        by_cases hk : lesKey x t
        · have : lesBef t x = false := by
            cases hq : lesBef t x
            · rfl
            · exfalso
              rw [bef_iff] at hq
              obtain ⟨k1, k2, k3⟩ := hk
              rcases hq with hq | ⟨_, hq | ⟨_, hq⟩⟩
              · omega
              · rw [k2] at hq; exact List.lt_irrefl _ hq
              · rw [k3] at hq; exact List.lt_irrefl _ hq
          rw [this, decide_eq_true ((lesCmp_zero x t).2 hk)]; rfl
        · have : lesBef t x = true := by
            rcases les_tri x t with h | h | h
            · exact absurd h hb
            · exact absurd h hk
            · exact h
          rw [this, decide_eq_false (fun e => hk ((lesCmp_zero x t).1 e))]; rfl
      · have hn : decide (((cutL A t : Nat) : Int) < (A.length : Int)) = false := decide_eq_false (by omega)
        have hh : hasL A t = false := by unfold hasL; rw [List.getElem?_eq_none h]
        rw [hn, bif_f, hh]; rfl
    rw [j1]
    cases hh : hasL A t
    · simp only [Bool.false_eq_true, if_false, bif_f]
      have hlen := insL_len A t
      have esub : (sub A 0 (cutL A t : Int) ++ [t]) ++ sub A (cutL A t : Int) (A.length : Int) = insL A t := by
        unfold sub insL
        simp
      have l1 : (sub A 0 (cutL A t : Int)).length = cutL A t := by rw [sub_len (by omega)]; simp
      have l2 : (sub A (cutL A t : Int) (A.length : Int)).length = A.length - cutL A t := by rw [sub_len (by omega)]; simp
      have e3 : F_spec_AddLesson_j3 A t (cutL A t : Int) = ((F_spec_l28Ok (insL A t)).bind fun v => bif !v then some ([], 5) else some (insL A t, 0)) := by
        unfold F_spec_AddLesson_j3
        rw [need_true (by omega), need_true (room56 (by omega)), need_true (room56 (by rw [l1]; simp only [List.length_singleton]; omega)), need_true (by omega), need_true (room56 (by rw [List.length_append, l1, l2]; simp only [List.length_singleton]; omega)), esub]
      have hr : room (A.length + 1) 56 := room56 (by omega)
      have e4 : F_ins 56 A (cutL A t : Int) [t] = some (insL A t) := by
        unfold F_ins
        simp only [List.length_singleton]
        rw [need_true ⟨by omega, by omega, hr⟩, Int.toNat_natCast]
        rfl
      rw [e3, CloneL_eq (room56 (by omega))]
      simp only [Option.bind_some, e4]
      have oI : (OkL OkLesson) (insL A t) := by
        refine ⟨by omega, fun x hx => ?_⟩
        unfold insL at hx
        rcases List.mem_append.1 hx with hx | hx
        · rcases List.mem_append.1 hx with hx | hx
          · exact oA.2 x (List.mem_of_mem_take hx)
          · rw [List.mem_singleton.1 hx]; exact ot
        · exact oA.2 x (List.mem_of_mem_drop hx)
      have hadj : adj lesOk lesBef none (insL A t) = true := by
        refine adj_of (fun x hx => ?_) (fun i x y hx hy => les_pw.2 (insL_pw hs hh) i (i + 1) x y (by omega) hx hy) (fun q x hq => by cases hq)
        unfold insL at hx
        rcases List.mem_append.1 hx with hx | hx
        · rcases List.mem_append.1 hx with hx | hx
          · exact hV.one x (List.mem_of_mem_take hx)
          · rw [List.mem_singleton.1 hx]; exact ht
        · exact hV.one x (List.mem_of_mem_drop hx)
      obtain ⟨R, p1, p2, _, _⟩ := pups_ex (A := insL A t) (by omega)
      by_cases hbig : (64 : Int) < ((insL A t).length : Int)
      · rw [ok_adj oI (fin := false) (fun k => by
          simp only [F_spec_l28Ok_l0, int_lt_self, bif_f]
          rw [decide_eq_false (by omega), bif_f]), Bool.and_false]
        refine ⟨([], 5), rfl, ?_, ct_less (by simp)⟩
        rw [decide_eq_true hbig, bif_t]
      · rw [ok_adj oI (fin := decide ((R.length : Int) ≤ 12)) (fun k => by
          simp only [F_spec_l28Ok_l0, int_lt_self, bif_f]
          rw [decide_eq_true (by omega), bif_t, p1]; rfl), hadj, decide_eq_false hbig, bif_f, p2]
        simp only [Option.bind_some, Bool.true_and]
        by_cases h12 : (12 : Int) < (R.length : Int)
        · refine ⟨([], 5), ?_, ?_, ct_less (by simp)⟩
          · rw [decide_eq_false (by omega)]; rfl
          · rw [decide_eq_true h12]; rfl
        · refine ⟨(insL A t, 0), ?_, ?_, ct_less (by dsimp only; omega)⟩
          · rw [decide_eq_true (by omega)]; rfl
          · rw [decide_eq_false h12]; rfl
    · exact ⟨([], 4), rfl, rfl, ct_less (by simp)⟩
end Go.Ab
