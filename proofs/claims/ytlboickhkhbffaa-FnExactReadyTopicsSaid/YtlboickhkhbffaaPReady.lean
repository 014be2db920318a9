/- ReadyTopics: the program's and the reference's (own text). -/
import Derived.Test.YtlboickhkhbffaaPLess
set_option linter.unusedVariables false
set_option linter.unusedSimpArgs false
namespace Go.Ab
open Go.RowKit
def pairOk : List Str → Bool
  | [a, b] => nameOk a && (nameOk b && !decide (a = b))
  | _ => false
theorem pair_cases (q : List Str) : (∃ a b, q = [a, b]) ∨ (decide ((q.length : Int) ≠ 2) = true ∧ pairOk q = false) := by
  match q with
  | [] => exact .inr ⟨by decide, rfl⟩
  | [a] => exact .inr ⟨by simp, rfl⟩
  | [a, b] => exact .inl ⟨a, b, rfl⟩
  | a :: b :: c :: t => exact .inr ⟨decide_eq_true (by simp only [List.length_cons]; omega), rfl⟩
theorem ix0 {α : Type} (a b : α) : ix [a, b] 0 = some a := rfl
theorem ix1 {α : Type} (a b : α) : ix [a, b] 1 = some b := rfl
theorem two_len {α : Type} (a b : α) : decide ((([a, b] : List α).length : Int) ≠ 2) = false := rfl
abbrev OkPairs (B : List (List Str)) : Prop := (OkL (OkL OkS)) B
theorem wrong_eq {q : List Str} (h : (OkL OkS) q) : F_impl_wrongPair q = some (!pairOk q) := by
  unfold F_impl_wrongPair
  rcases pair_cases q with ⟨a, b, rfl⟩ | ⟨h1, h2⟩
  · have ha := h.2 a (by simp)
    have hb := h.2 b (by simp)
    simp only [two_len, bif_f, ix0, ix1, Option.bind_some, IsName_eq a ha, IsName_eq b hb, pairOk]
    cases nameOk a <;> cases nameOk b <;> simp
  · rw [h1, bif_t, h2]; rfl
theorem anyWrong_eq {B : List (List Str)} (h : OkPairs B) : F_slices_ContainsFunc_SSstring_Sstring B = some (!B.all pairOk) := by
  obtain ⟨r, e, hr⟩ := loop_ex (body := F_slices_IndexFunc_SSstring_Sstring_l0 B) (L := B) (s0 := 0) (Q := fun r => decide (0 ≤ r) = !B.all pairOk) (fun i s => s = (i : Int) ∧ ∀ q ∈ B.take i, pairOk q = true) h.1 ⟨rfl, by simp⟩
    (by
      rintro i _ k q hq hi ⟨rfl, hI⟩ hk
      simp only [F_slices_IndexFunc_SSstring_Sstring_l0, int_lt (get_lt hq), bif_t, ix_get hq, Option.bind_some, wrong_eq (h.2 q (get_mem hq)), w64_succ hi]
      cases hp : pairOk q
      · simp only [Bool.not_false, bif_t]
        refine ⟨_, rfl, ?_⟩
        rw [decide_eq_true (by omega)]
        have : B.all pairOk = false := by rw [List.all_eq_false]; exact ⟨q, get_mem hq, by rw [hp]; simp⟩
        rw [this]; rfl
      · simp only [Bool.not_true, bif_f]
        refine hk _ ⟨rfl, fun x hx => ?_⟩
        rw [take_succ hq] at hx
        rcases List.mem_append.1 hx with hx | hx
        · exact hI x hx
        · rw [List.mem_singleton.1 hx]; exact hp)
    (by
      rintro _ k ⟨rfl, hI⟩
      rw [take_all (Nat.le_refl _)] at hI
      simp only [F_slices_IndexFunc_SSstring_Sstring_l0, int_lt_self, bif_f]
      refine ⟨_, rfl, ?_⟩
      have : B.all pairOk = true := List.all_eq_true.2 hI
      rw [this]; rfl)
  unfold F_slices_ContainsFunc_SSstring_Sstring F_slices_IndexFunc_SSstring_Sstring
  rw [e, Option.bind_some, hr]
def fst0 (q : List Str) : Str := q.headD []
def snd0 (q : List Str) : Str := (q.drop 1).headD []
/-- Such a pair blocks this topic. -/
def blk (own : List TLesson) (mark : Int) (t : Str) (q : List Str) : Bool := decide (fst0 q = t) && decide (best own (snd0 q) < mark)
def rdy (own : List TLesson) (mark : Int) (B : List (List Str)) (t : Str) : Bool := decide (best own t < 0) && !B.any (blk own mark t)
theorem blocked_eq {B : List (List Str)} {own : List TLesson} {mark : Int} (hB : B.length ≤ 9223372036854775807) (ho : own.length ≤ 100000) (hp : ∀ q ∈ B, pairOk q = true) {p : List Str} (hpp : pairOk p = true) : F_slices_ContainsFunc_SSstring_Sstring_1 B p own mark = some (B.any (blk own mark (fst0 p))) := by
  obtain ⟨x, y, rfl⟩ : ∃ a b, p = [a, b] := (pair_cases p).resolve_right fun h => by rw [h.2] at hpp; cases hpp
  obtain ⟨r, e, hr⟩ := loop_ex (body := F_slices_IndexFunc_SSstring_Sstring_1_l0 B [x, y] own mark) (L := B) (s0 := 0) (Q := fun r => decide (0 ≤ r) = B.any (blk own mark x)) (fun i s => s = (i : Int) ∧ ∀ q ∈ B.take i, blk own mark x q = false) hB ⟨rfl, by simp⟩
    (by
      rintro i _ k q hq hi ⟨rfl, hI⟩ hk
      have hqq := hp q (get_mem hq)
      obtain ⟨a, b, rfl⟩ : ∃ a b, q = [a, b] := (pair_cases q).resolve_right fun h => by rw [h.2] at hqq; cases hqq
      have e1 : F_impl_ReadyTopics_1 [a, b] [x, y] own mark = some (blk own mark x [a, b]) := by
        unfold F_impl_ReadyTopics_1 blk
        simp only [ix0, ix1, Option.bind_some, bestMark_eq ho, fst0, snd0, List.headD, List.drop]
        by_cases h : a = x
        · simp [h]; rfl
        · simp [h]
      simp only [F_slices_IndexFunc_SSstring_Sstring_1_l0, int_lt (get_lt hq), bif_t, ix_get hq, Option.bind_some, e1, w64_succ hi]
      cases hb : blk own mark x [a, b]
      · rw [bif_f]
        refine hk _ ⟨rfl, fun z hz => ?_⟩
        rw [take_succ hq] at hz
        rcases List.mem_append.1 hz with hz | hz
        · exact hI z hz
        · rw [List.mem_singleton.1 hz]; exact hb
      · rw [bif_t]
        refine ⟨_, rfl, ?_⟩
        rw [decide_eq_true (by omega)]
        exact (List.any_eq_true.2 ⟨_, get_mem hq, hb⟩).symm)
    (by
      rintro _ k ⟨rfl, hI⟩
      rw [take_all (Nat.le_refl _)] at hI
      simp only [F_slices_IndexFunc_SSstring_Sstring_1_l0, int_lt_self, bif_f]
      refine ⟨_, rfl, ?_⟩
      have : B.any (blk own mark x) = false := List.any_eq_false.2 fun q hq => by rw [hI q hq]; simp
      rw [this]; rfl)
  unfold F_slices_ContainsFunc_SSstring_Sstring_1 F_slices_IndexFunc_SSstring_Sstring_1
  rw [e, Option.bind_some, hr]; rfl
theorem Index_eq (L : List Str) (n : Str) (hL : L.length ≤ 9223372036854775807) : ∃ r, F_slices_Index_Sstring_string L n = some r ∧ (0 ≤ r ↔ n ∈ L) := by
  unfold F_slices_Index_Sstring_string
  refine loop_ex (L := L) (fun i s => s = (i : Int) ∧ ∀ x ∈ L.take i, x ≠ n) hL ⟨rfl, by simp⟩ ?_ ?_
  · rintro i _ k a ha hi ⟨rfl, hI⟩ hk
    simp only [F_slices_Index_Sstring_string_l0, int_lt (get_lt ha), bif_t, ix_get ha, Option.bind_some, w64_succ hi, bif_dec]
    split
    · rename_i h
      exact ⟨_, rfl, fun _ => by rw [h]; exact get_mem ha, fun _ => by omega⟩
    · rename_i h
      refine hk _ ⟨rfl, fun x hx => ?_⟩
      rw [take_succ ha] at hx
      rcases List.mem_append.1 hx with hx | hx
      · exact hI x hx
      · rw [List.mem_singleton.1 hx]; exact fun e => h e.symm
  · rintro _ k ⟨rfl, hI⟩
    rw [take_all (Nat.le_refl _)] at hI
    simp only [F_slices_Index_Sstring_string_l0, int_lt_self, bif_f]
    exact ⟨_, rfl, fun h => by omega, fun h => absurd rfl (hI n h)⟩
theorem Contains_eq (L : List Str) (n : Str) (hL : L.length ≤ 9223372036854775807) : F_slices_Contains_Sstring_string L n = some (decide (n ∈ L)) := by
  obtain ⟨r, h1, h2⟩ := Index_eq L n hL
  unfold F_slices_Contains_Sstring_string
  rw [h1]
  simp only [Option.bind_some, h2]
/-- The reference's code goes on as it is. -/
theorem ready_code {A : List TLesson} {n : Str} {B : List (List Str)} {mark c : Int} (hc : c ≠ 0) : F_spec_ReadyTopics_j0 A n B mark c = some ([], c) := by
  have e : F_spec_ReadyTopics_j1 A n B mark c = some ([], c) := by unfold F_spec_ReadyTopics_j1; rw [decide_eq_true hc, bif_t]
  unfold F_spec_ReadyTopics_j0
  have : ∀ k, F_spec_ReadyTopics_l2 A n B mark k (c, 0) = some ([], c) := by
    intro k
    simp only [F_spec_ReadyTopics_l2, e, decide_eq_false hc, bif_f]
    cases decide ((0 : Int) < (B.length : Int)) <;> rfl
  obtain ⟨m, hm⟩ : ∃ m, lim = m + 1 := ⟨lim - 1, by unfold lim; omega⟩
  unfold loop
  rw [hm, iter, this]
theorem ready_pairs {A : List TLesson} {n : Str} {B : List (List Str)} {mark : Int} (h : OkPairs B) : F_spec_ReadyTopics_j0 A n B mark 0 = if B.all pairOk = true then F_spec_ReadyTopics_j1 A n B mark 0 else some ([], 2) := by
  have e2 : F_spec_ReadyTopics_j1 A n B mark 2 = some ([], 2) := rfl
  unfold F_spec_ReadyTopics_j0
  have two : ∀ (i : Nat) N, 0 < N → iter (F_spec_ReadyTopics_l2 A n B mark) N (2, (i : Int)) = some ([], 2) := by
    intro i N hN
    obtain ⟨N, rfl⟩ : ∃ M, N = M + 1 := ⟨N - 1, by omega⟩
    rw [iter]
    simp only [F_spec_ReadyTopics_l2, e2, show decide ((2 : Int) = 0) = false from rfl, bif_f]
    cases decide ((i : Int) < (B.length : Int)) <;> rfl
  have key : ∀ (d i : Nat), i + d = B.length → ∀ N, d + 1 < N → iter (F_spec_ReadyTopics_l2 A n B mark) N (0, (i : Int)) = if (B.drop i).all pairOk = true then F_spec_ReadyTopics_j1 A n B mark 0 else some ([], 2) := by
    intro d
    induction d with
    | zero =>
      intro i hi N hN
      obtain ⟨N, rfl⟩ : ∃ M, N = M + 1 := ⟨N - 1, by omega⟩
      have : i = B.length := by omega
      subst this
      rw [iter, List.drop_length]
      simp only [F_spec_ReadyTopics_l2, int_lt_self, bif_f]
      rfl
    | succ d ih =>
      intro i hi N hN
      obtain ⟨N, rfl⟩ : ∃ M, N = M + 1 := ⟨N - 1, by omega⟩
      obtain ⟨q, hq⟩ := get_some (L := B) (n := i) (by omega)
      have him : i < 9223372036854775807 := by have := h.1; omega
      have h1 := two (i + 1) N (by omega)
      have h2 := ih (i + 1) (by omega) N (by omega)
      rw [iter, drop_cons hq, List.all_cons]
      simp only [F_spec_ReadyTopics_l2, int_lt (get_lt hq), bif_t, ix_get hq, Option.bind_some, show decide ((0 : Int) = 0) = true from rfl, w64_succ him]
      have hqo := h.2 q (get_mem hq)
      rcases pair_cases q with ⟨a, b, rfl⟩ | ⟨g1, g2⟩
      · have ha := hqo.2 a (by simp)
        have hb := hqo.2 b (by simp)
        simp only [two_len, bif_f, ix0, ix1, Option.bind_some, l01Name_eq a ha, l01Name_eq b hb, pairOk, h1, h2]
        by_cases hna : nameOk a = true <;> by_cases hnb : nameOk b = true <;> by_cases hab : a = b <;> simp_all
      · rw [g1, bif_t, g2, h1]; rfl
  have := key B.length 0 (by omega) lim (by have := h.1; unfold lim; omega)
  rw [List.drop_zero] at this
  exact this
theorem ready_spec {A : List TLesson} {n : Str} {B : List (List Str)} {mark : Int} (hA : A.length ≤ 64) (hB : B.length ≤ 64) (hm : 0 ≤ mark) (hp : ∀ q ∈ B, pairOk q = true) : ∃ R, F_spec_ReadyTopics_j1 A n B mark 0 = some (R, 0) ∧ srtS R ∧ R.length ≤ 64 ∧ ∀ y, y ∈ R ↔ ∃ p ∈ B, rdy (A.filter fun a => decide (a.2.1 = n)) mark B (fst0 p) = true ∧ fst0 p = y := by
  have hown : (A.filter fun a => decide (a.2.1 = n)).length ≤ 64 := Nat.le_trans (List.length_filter_le _ _) hA
  unfold F_spec_ReadyTopics_j1
  rw [show decide ((0 : Int) ≠ 0) = false from rfl, bif_f, l28Of_eq (by omega), Option.bind_some]
  generalize A.filter (fun a => decide (a.2.1 = n)) = own at hown
  obtain ⟨r, e, R, hr, h⟩ := loop_ex (body := F_spec_ReadyTopics_l5 B mark own) (s0 := (0, [])) (L := B) (Q := fun r => ∃ R, r = (R, (0 : Int)) ∧ srtS R ∧ R.length ≤ 64 ∧ ∀ y, y ∈ R ↔ ∃ p ∈ B, rdy own mark B (fst0 p) = true ∧ fst0 p = y)
    (fun i s => s.1 = (i : Int) ∧ srtS s.2 ∧ s.2.length ≤ i ∧ ∀ y, y ∈ s.2 ↔ ∃ p ∈ B.take i, rdy own mark B (fst0 p) = true ∧ fst0 p = y) (by omega) ⟨rfl, List.Pairwise.nil, by simp, by simp⟩
    (by
      rintro i ⟨_, O⟩ K p hpi hi ⟨rfl, g1, g2, g3⟩ hK
      dsimp only at g1 g2 g3
      have hlt := get_lt hpi
      have hpp := hp p (get_mem hpi)
      obtain ⟨x, z, rfl⟩ : ∃ a b, p = [a, b] := (pair_cases p).resolve_right fun h => by rw [h.2] at hpp; cases hpp
      have hmem : ∀ y, (∃ p ∈ B.take (i + 1), rdy own mark B (fst0 p) = true ∧ fst0 p = y) ↔ (∃ p ∈ B.take i, rdy own mark B (fst0 p) = true ∧ fst0 p = y) ∨ (rdy own mark B x = true ∧ x = y) := by
        intro y
        rw [take_succ hpi]
        constructor
        · rintro ⟨p, hp, h1, h2⟩
          rcases List.mem_append.1 hp with h | h
          · exact .inl ⟨p, h, h1, h2⟩
          · rw [List.mem_singleton.1 h] at h1 h2; exact .inr ⟨h1, h2⟩
        · rintro (⟨p, hp, h1, h2⟩ | ⟨h1, h2⟩)
          · exact ⟨p, List.mem_append_left _ hp, h1, h2⟩
          · exact ⟨[x, z], List.mem_append_right _ (List.mem_singleton.2 rfl), h1, h2⟩
      simp only [F_spec_ReadyTopics_l5, int_lt hlt, bif_t, ix_get hpi, Option.bind_some, ix0, l28Best_eq (show own.length ≤ 100000 by omega)]
      refine loop_ex (L := B) (fun j s => s = (decide (best own x < 0) && !(B.take j).any (blk own mark x), (j : Int))) (by omega) (by simp) ?_ ?_
      · rintro j _ K1 q hq hj rfl hK1
        have hqq := hp q (get_mem hq)
        obtain ⟨a, b, rfl⟩ : ∃ a b, q = [a, b] := (pair_cases q).resolve_right fun h => by rw [h.2] at hqq; cases hqq
        have hs : (B.take (j + 1)).any (blk own mark x) = ((B.take j).any (blk own mark x) || blk own mark x [a, b]) := by
          rw [take_succ hq, List.any_append]; simp
        simp only [F_spec_ReadyTopics_l6, int_lt (get_lt hq), bif_t, ix_get hq, Option.bind_some, ix0, ix1, l28Best_eq (show own.length ≤ 100000 by omega), w64_succ hj]
        have hb : blk own mark x [a, b] = (decide (a = x) && decide (best own b < mark)) := rfl
        by_cases hax : a = x
        · rw [decide_eq_true hax, bif_t]
          have hb : blk own mark x [a, b] = decide (best own b < mark) := by rw [hb, decide_eq_true hax]; rfl
          rw [hb] at hs
          cases hv : (decide (best own x < 0) && !(B.take j).any (blk own mark x))
          · rw [bif_f]
            refine hK1 _ ?_
            congr 1
            rw [hs]
            revert hv
            cases decide (best own x < 0) <;> cases (B.take j).any (blk own mark x) <;> simp
          · rw [bif_t]
            by_cases h0 : 0 ≤ best own b
            · rw [decide_eq_true h0, bif_t]
              refine hK1 _ ?_
              congr 1
              rw [hs]
              have : decide (mark ≤ best own b) = !decide (best own b < mark) := by
                by_cases h : best own b < mark
                · rw [decide_eq_true h, decide_eq_false (by omega)]; rfl
                · rw [decide_eq_false h, decide_eq_true (by omega)]; rfl
              rw [this]
              revert hv
              cases decide (best own x < 0) <;> cases (B.take j).any (blk own mark x) <;> simp
            · rw [decide_eq_false h0, bif_f]
              refine hK1 _ ?_
              congr 1
              rw [hs, decide_eq_true (show best own b < mark by omega)]
              simp
        · rw [decide_eq_false hax, bif_f]
          refine hK1 _ ?_
          congr 1
          rw [hs, hb, decide_eq_false hax]
          simp
      · rintro _ K1 rfl
        rw [take_all (Nat.le_refl _)]
        simp only [F_spec_ReadyTopics_l6, int_lt_self, bif_f]
        have hrd : (decide (best own x < 0) && !B.any (blk own mark x)) = rdy own mark B x := rfl
        rw [hrd]
        cases hv : rdy own mark B x
        · rw [bif_f, w64_succ hi]
          refine hK _ ⟨rfl, g1, by dsimp only; omega, fun y => ?_⟩
          dsimp only
          rw [hmem, g3, hv]
          simp
        · obtain ⟨S, eS, q1, q2⟩ := put_ex g1 x (by omega)
          rw [bif_t, eS, Option.bind_some, w64_succ hi]
          refine hK _ ⟨rfl, q1, ?_, fun y => ?_⟩
          · have hd : S.Nodup := q1.imp fun h => lt_ne h
            have := hd.length_le_of_subset (l₂ := O ++ [x]) (fun y hy => by
              rcases (q2 y).1 hy with h | h
              · exact List.mem_append_left _ h
              · exact List.mem_append_right _ (by rw [h]; exact List.mem_singleton.2 rfl))
            simp only [List.length_append, List.length_singleton] at this
            dsimp only; omega
          · rw [q2, hmem, g3, hv]
            constructor
            · rintro (h | h)
              · exact .inl h
              · exact .inr ⟨rfl, h.symm⟩
            · rintro (h | ⟨_, h⟩)
              · exact .inl h
              · exact .inr h.symm)
    (by
      rintro ⟨_, O⟩ K ⟨rfl, g1, g2, g3⟩
      dsimp only at g1 g2 g3
      rw [take_all (Nat.le_refl _)] at g3
      simp only [F_spec_ReadyTopics_l5, int_lt_self, bif_f]
      exact ⟨_, rfl, O, rfl, g1, by omega, g3⟩)
  subst hr
  exact ⟨R, e, h⟩
theorem ready_impl {own : List TLesson} {B : List (List Str)} {mark c : Int} (hown : own.length ≤ 64) (hv : ∀ a ∈ own, 0 ≤ a.2.2.2.2) (hB : B.length ≤ 64) (hp : ∀ q ∈ B, pairOk q = true) : ∃ R, loop (F_impl_ReadyTopics_l0 B mark (own, c)) (0, []) = some (R, 0) ∧ srtS R ∧ ∀ y, y ∈ R ↔ ∃ p ∈ B, rdy own mark B (fst0 p) = true ∧ fst0 p = y := by
  have hf : ((B.filter fun p => rdy own mark B (fst0 p)).map fst0).length ≤ 64 := by rw [List.length_map]; exact Nat.le_trans (List.length_filter_le _ _) hB
  obtain ⟨S, q1, q2, q3⟩ := sc_ex ((B.filter fun p => rdy own mark B (fst0 p)).map fst0) (by omega) (fun v => some (v, (0 : Int)))
  refine ⟨S, ?_, q2, fun y => ?_⟩
  · refine loop_coll (A := B) (fun p => rdy own mark B (fst0 p)) fst0 (by omega) ?_ ?_
    · intro i O k p hpi hi hO hlt
      have hpp := hp p (get_mem hpi)
      have hbl := blocked_eq (own := own) (mark := mark) (show B.length ≤ 9223372036854775807 by omega) (by omega) hp hpp
      obtain ⟨x, z, rfl⟩ : ∃ a b, p = [a, b] := (pair_cases p).resolve_right fun h => by rw [h.2] at hpp; cases hpp
      have hr : room (O.length + [x].length) 16 := by constructor <;> simp only [List.length_singleton] <;> omega
      obtain ⟨T, t1, t2, t3⟩ := topics_ex (A := own) (by omega)
      have hin : decide (x ∈ T) = !decide (best own x < 0) := by
        by_cases h : best own x < 0
        · rw [decide_eq_true h, decide_eq_false]
          · rfl
          · intro hx
            obtain ⟨a, ha, e⟩ := (t3 x).1 hx
            exact (best_neg hv).1 h a ha e
        · rw [decide_eq_false h, decide_eq_true]
          · rfl
          · refine Classical.byContradiction fun hx => h ((best_neg hv).2 fun a ha e => hx ((t3 x).2 ⟨a, ha, e⟩))
      simp only [F_impl_ReadyTopics_l0, int_lt hlt, bif_t, ix_get hpi, Option.bind_some, hbl, t1, ix0, Contains_eq T x (by omega), hin, need_true hr, w64_succ hi]
      show _ = bif rdy own mark B x then k (_, O ++ [x]) else _
      have hrd : rdy own mark B x = (decide (best own x < 0) && !B.any (blk own mark x)) := rfl
      rw [hrd]
      show (bif !B.any (blk own mark x) then _ else _) = _
      cases B.any (blk own mark x) <;> cases decide (best own x < 0) <;> rfl
    · intro k
      simp only [F_impl_ReadyTopics_l0, int_lt_self, bif_f]
      exact q1
  · rw [q3, List.mem_map]
    constructor
    · rintro ⟨p, hp, e⟩
      obtain ⟨h1, h2⟩ := List.mem_filter.1 hp
      exact ⟨p, h1, h2, e⟩
    · rintro ⟨p, h1, h2, e⟩
      exact ⟨p, List.mem_filter.2 ⟨h1, h2⟩, e⟩
theorem core_ReadyTopics (A : List TLesson) (n : List UInt8) (B : List (List (List UInt8))) (mark : Int) (oA : (OkL OkLesson) A) (on : OkS n) (oB : (OkL (OkL OkS)) B) (om : OkI mark) (sA : (SmL SmLesson) A) (sn : SmS n) (sB : (SmL (SmL SmS)) B) : ∃ w, F_spec_ReadyTopics A n B mark = some w ∧ F_impl_ReadyTopics A n B mark = some w ∧ (SmL (fun _ => True)) w.1 := by
  obtain ⟨r, s1, s2, s3⟩ := lessons_eq oA (by have := sA.1; omega)
  have nil : ∀ c : Int, (SmL (fun _ => True)) (([] : List (List UInt8)), c).1 := fun c => ⟨by simp, fun _ h => by simp at h⟩
  unfold F_spec_ReadyTopics F_impl_ReadyTopics F_spec_l28Ask F_impl_lessonsOf
  rw [s1, s2]
  simp only [Option.bind_some]
  cases r with
  | false => exact ⟨([], 1), ready_code (by omega), rfl, nil 1⟩
  | true =>
    have hV := s3 rfl
    have h64 := hV.len
    have hown : (A.filter fun a => decide (a.2.1 = n)).length ≤ 64 := Nat.le_trans (List.length_filter_le _ _) h64
    have hv : ∀ a ∈ A.filter (fun a => decide (a.2.1 = n)), 0 ≤ a.2.2.2.2 := by
      intro a ha
      have := hV.one a (List.mem_filter.1 ha).1
      unfold lesOk at this
      simp only [Bool.and_eq_true, decide_eq_true_eq] at this
      exact this.2.2.2.2.1
    have il : loop (F_impl_lessonsOf_l0 A n) (0, []) = some (if ((A.filter fun a => decide (a.2.1 = n)).length : Int) = 0 then ([], 3) else (A.filter (fun a => decide (a.2.1 = n)), 0)) := by
      have := loop_coll (A := A) (body := F_impl_lessonsOf_l0 A n) (r := if ((A.filter fun a => decide (a.2.1 = n)).length : Int) = 0 then ([], 3) else (A.filter (fun a => decide (a.2.1 = n)), 0)) (fun a => decide (a.2.1 = n)) (fun a => a) (by omega) ?_ ?_
      · exact this
      · intro i O k a ha hi hO hlt
        have hr : room (O.length + [a].length) 56 := by constructor <;> simp only [List.length_singleton] <;> omega
        simp only [F_impl_lessonsOf_l0, int_lt hlt, bif_t, ix_get ha, Option.bind_some, need_true hr, w64_succ hi]
      · intro k
        simp only [F_impl_lessonsOf_l0, int_lt_self, bif_f, List.map_id', bif_dec]
        split <;> rfl
    simp only [Bool.not_true, bif_f, l28Of_eq (show A.length ≤ 100000 by omega), Option.bind_some, il]
    by_cases h0 : ((A.filter fun a => decide (a.2.1 = n)).length : Int) = 0
    · rw [if_pos h0, decide_eq_true h0, bif_t]
      exact ⟨([], 3), ready_code (by omega), rfl, nil 3⟩
    · rw [if_neg h0, decide_eq_false h0, bif_f]
      simp only [Option.bind_some, show decide ((0 : Int) = 0) = true from rfl, show decide ((0 : Int) ≠ 0) = false from rfl, bif_t, bif_f, l00In_eq, within_eq]
      by_cases hB : (64 : Int) < B.length
      · rw [decide_eq_true hB, bif_t, bif_t]
        exact ⟨([], 2), ready_code (by omega), rfl, nil 2⟩
      · rw [decide_eq_false hB, bif_f, bif_f, anyWrong_eq oB]
        simp only [Option.bind_some]
        by_cases hm : 0 ≤ mark ∧ mark ≤ 100
        · rw [decide_eq_true hm]
          simp only [Bool.not_true, bif_f]
          rw [ready_pairs oB]
          cases hall : B.all pairOk
          · exact ⟨([], 2), rfl, rfl, nil 2⟩
          · have hp := List.all_eq_true.1 hall
            obtain ⟨R, e1, e2, e3, e4⟩ := ready_spec (A := A) (n := n) (B := B) (mark := mark) h64 (by omega) hm.1 hp
            obtain ⟨S, f1, f2, f3⟩ := ready_impl (c := 0) (mark := mark) hown hv (show B.length ≤ 64 by omega) hp
            have : S = R := srt_uniq f2 e2 fun y => by rw [f3, e4]
            subst this
            refine ⟨(S, 0), e1, f1, ⟨by dsimp only; omega, fun _ _ => trivial⟩⟩
        · rw [decide_eq_false hm]
          simp only [Bool.not_false, bif_t]
          refine ⟨([], 2), ready_code (by omega), ?_, nil 2⟩
          cases B.all pairOk <;> rfl
end Go.Ab
