/- CommonTeachers: the program's and the reference's (own text). -/
import Derived.Test.YtbmcnmmaplagbaaPTops
import Derived.Test.YtbmcnmmaplagbaaPFil
set_option linter.unusedVariables false
set_option linter.unusedSimpArgs false
namespace Go.Ab
open Go.RowKit
theorem bool_ext {a b : Bool} (h : a = true ↔ b = true) : a = b := by cases a <;> cases b <;> simp_all
theorem has_names {A : List TPerson} (hV : VP A) (m n : List UInt8) : decide (n ∈ (A.filter (anc A m)).map (·.1)) = true ↔ Anc A m n := by
  rw [decide_eq_true_iff, List.mem_map]
  constructor
  · rintro ⟨x, hx, rfl⟩
    exact anc_iff.1 (List.mem_filter.1 hx).2
  · intro h
    obtain ⟨q, hq, _, e⟩ := at_pos (h.at hV)
    exact ⟨q, List.mem_filter.2 ⟨get_mem hq, anc_iff.2 (by rw [e]; exact h)⟩, e⟩
noncomputable def com (A : List TPerson) (m n : List UInt8) (a : TPerson) : Bool := anc A m a && anc A n a
theorem common_spec {A : List TPerson} (oA : OkPersons A) (hV : VP A) {m n : List UInt8} {U W : List Bool} (hU : Flags A U (anc A m)) (hW : Flags A W (anc A n)) : loop (F_spec_CommonTeachers_l1 A W) (0, U) = some ((A.filter (com A m n)).map (·.1), 0) := by
  obtain ⟨r, e, hr⟩ := loop_ex (body := F_spec_CommonTeachers_l1 A W) (s0 := (0, U)) (Q := fun r => r = ((A.filter (com A m n)).map (·.1), 0)) (L := A)
    (fun i s => s.1 = (i : Int) ∧ s.2.length = A.length ∧ ∀ (k : Nat) a, A[k]? = some a → s.2[k]? = some (if k < i then com A m n a else anc A m a)) oA.1 ⟨rfl, hU.1, fun k a ha => by rw [if_neg (by omega)]; exact hU.2 k a ha⟩
    (by
      rintro i ⟨_, B⟩ K a ha hi ⟨rfl, hB, hI⟩ hK
      dsimp only at hB hI
      have h1 := hI i a ha
      rw [if_neg (by omega)] at h1
      have next : ∀ b, b = com A m n a → ∃ r, K (((i + 1 : Nat) : Int), B.set i b) = some r ∧ r = ((A.filter (com A m n)).map (·.1), 0) := by
        intro b hb
        refine hK _ ⟨rfl, by dsimp only; rw [List.length_set]; exact hB, ?_⟩
        intro k x hx
        dsimp only
        by_cases h : k = i
        · subst h
          rw [ha] at hx; cases hx
          rw [List.getElem?_set_self (by rw [hB]; exact get_lt ha), if_pos (by omega), hb]
        · rw [List.getElem?_set_ne (fun e => h e.symm), hI k x hx]
          by_cases h2 : k < i
          · rw [if_pos h2, if_pos (by omega)]
          · rw [if_neg h2, if_neg (by omega)]
      have hlt : decide ((i : Int) < (B.length : Int)) = true := by rw [hB]; exact int_lt (get_lt ha)
      simp only [F_spec_CommonTeachers_l1, hlt, bif_t, ix_get h1, ix_get (hW.2 i a ha), Option.bind_some, w64_succ hi, Int.toNat_natCast]
      cases h : anc A m a
      · rw [bif_f]; exact next _ (by unfold com; rw [h]; rfl)
      · rw [bif_t]; exact next _ (by unfold com; rw [h]; rfl))
    (by
      rintro ⟨_, B⟩ K ⟨rfl, hB, hI⟩
      dsimp only at hB hI
      have hF : Flags A B (com A m n) := ⟨hB, fun k a ha => by rw [hI k a ha, if_pos (get_lt ha)]⟩
      have hlt : decide ((A.length : Int) < (B.length : Int)) = false := by rw [hB]; exact int_lt_self
      refine ⟨_, by simp only [F_spec_CommonTeachers_l1, hlt, bif_f, l30Names_eq hV hF, Option.bind_some], rfl⟩)
  rw [e, hr]
/-- slices.IndexFunc of names not kept. -/
theorem Lost_eq (L T : List (List UInt8)) (hL : L.length ≤ 9223372036854775807) (hT : T.length ≤ 9223372036854775807) :
    ∃ r, F_slices_IndexFunc_Sstring_string_1 L T = some r ∧ ((r = -1 ∧ ∀ x ∈ L, x ∈ T) ∨ ∃ i : Nat, r = (i : Int) ∧ i < L.length ∧ (∀ x ∈ L.take i, x ∈ T) ∧ ∀ x, L[i]? = some x → ¬ x ∈ T) := by
  unfold F_slices_IndexFunc_Sstring_string_1
  refine loop_ex (L := L) (fun i s => s = (i : Int) ∧ ∀ x ∈ L.take i, x ∈ T) hL ⟨rfl, by simp⟩ ?_ ?_
  · rintro i _ k a ha hi ⟨rfl, hI⟩ hk
    simp only [F_slices_IndexFunc_Sstring_string_1_l0, F_impl_CommonTeachers_1, int_lt (get_lt ha), bif_t, ix_get ha, Option.bind_some, w64_succ hi, Contains_eq T a hT]
    by_cases h : a ∈ T
    · rw [decide_eq_true h]
      simp only [Bool.not_true, bif_f]
      refine hk _ ⟨rfl, fun x hx => ?_⟩
      rw [take_succ ha] at hx
      rcases List.mem_append.1 hx with hx | hx
      · exact hI x hx
      · rw [List.mem_singleton.1 hx]; exact h
    · rw [decide_eq_false h]
      simp only [Bool.not_false, bif_t]
      exact ⟨_, rfl, .inr ⟨i, rfl, get_lt ha, hI, fun x hx => by rw [ha] at hx; cases hx; exact h⟩⟩
  · rintro _ k ⟨rfl, hI⟩
    rw [take_all (Nat.le_refl _)] at hI
    simp only [F_slices_IndexFunc_Sstring_string_1_l0, int_lt_self, bif_f]
    exact ⟨_, rfl, .inl ⟨rfl, hI⟩⟩
theorem filter_id {L T : List (List UInt8)} (h : ∀ x ∈ L, x ∈ T) : L.filter (fun x => decide (x ∈ T)) = L := List.filter_eq_self.2 fun x hx => decide_eq_true (h x hx)
theorem set_take {α : Type} {L : List α} {i : Nat} {v : α} (h : i < L.length) : (L.set i v).take (i + 1) = L.take i ++ [v] := by
  rw [take_succ (List.getElem?_set_self h), List.take_set_of_le (Nat.le_refl i)]
theorem Delete_eq (L T : List (List UInt8)) (hL : L.length ≤ 24) (hT : T.length ≤ 24) : F_slices_DeleteFunc_Sstring_string L T = some (L.filter fun x => decide (x ∈ T)) := by
  obtain ⟨r, e, h⟩ := Lost_eq L T (by omega) (by omega)
  unfold F_slices_DeleteFunc_Sstring_string
  rw [e]
  simp only [Option.bind_some, bif_dec]
  rcases h with ⟨rfl, h⟩ | ⟨i0, rfl, hi0, h1, h2⟩
  · rw [if_pos rfl, filter_id h]
  · rw [if_neg (by omega)]
    have hw : w64 ((i0 : Int) + 1) = ((i0 + 1 : Nat) : Int) := w64_succ (by omega)
    rw [hw]
    have key : ∀ (d j i : Nat) (B : List (List UInt8)), j + d = L.length → i < j → B.length = L.length → B.take i = (L.take j).filter (fun x => decide (x ∈ T)) → B.drop j = L.drop j → ∀ N, d < N → iter (F_slices_DeleteFunc_Sstring_string_l0 T) N ((i : Int), (j : Int), B) = some (L.filter fun x => decide (x ∈ T)) := by
      intro d
      induction d with
      | zero =>
        intro j i B hj hij hB ht hd N hN
        obtain ⟨N, rfl⟩ : ∃ M, N = M + 1 := ⟨N - 1, by omega⟩
        rw [take_all (show L.length ≤ j by omega)] at ht
        have hc := clrL_len (A := B) (lo := (i : Int)) (hi := (B.length : Int)) (z := []) (by omega)
        have hlt : decide ((j : Int) < (B.length : Int)) = false := decide_eq_false (by omega)
        simp only [iter, F_slices_DeleteFunc_Sstring_string_l0, hlt, bif_f]
        rw [need_true (by omega), need_true (by rw [hc]; omega)]
        congr 1
        rw [← ht]
        unfold sub clrL
        simp only [Int.toNat_natCast, Int.toNat_zero, List.drop_zero]
        rw [List.append_assoc, List.take_append_of_le_length (by rw [List.length_take]; omega), List.take_take, Nat.min_self]
      | succ d ih =>
        intro j i B hj hij hB ht hd N hN
        obtain ⟨N, rfl⟩ : ∃ M, N = M + 1 := ⟨N - 1, by omega⟩
        obtain ⟨v, hv⟩ := get_some (L := L) (n := j) (by omega)
        have hvB : B[j]? = some v := by
          have : (B.drop j)[0]? = (L.drop j)[0]? := by rw [hd]
          rw [List.getElem?_drop, List.getElem?_drop] at this
          rw [← hv]; exact this
        obtain ⟨u, hu, _⟩ := ix_len (L := B) (n := (i : Int)) (by omega) (by omega)
        have hlt : decide ((j : Int) < (B.length : Int)) = true := decide_eq_true (by omega)
        have hs : (L.take (j + 1)).filter (fun x => decide (x ∈ T)) = (L.take j).filter (fun x => decide (x ∈ T)) ++ (if decide (v ∈ T) = true then [v] else []) := filter_snoc _ hv
        simp only [iter, F_slices_DeleteFunc_Sstring_string_l0, hlt, bif_t, ix_get hvB, hu, Option.bind_some, F_impl_CommonTeachers_1, Contains_eq T v (show _ ≤ 9223372036854775807 by omega), w64_succ (show i < 9223372036854775807 by omega), w64_succ (show j < 9223372036854775807 by omega), Int.toNat_natCast]
        by_cases h : v ∈ T
        · rw [if_pos (decide_eq_true h)] at hs
          rw [decide_eq_true h]
          simp only [Bool.not_true, Bool.not_false, bif_t]
          refine ih (j + 1) (i + 1) _ (by omega) (by omega) (by rw [List.length_set]; exact hB) ?_ ?_ N (by omega)
          · rw [set_take (by omega), ht, hs]
          · rw [List.drop_set_of_lt (by omega)]
            have := congrArg (List.drop 1) hd
            rw [List.drop_drop, List.drop_drop] at this
            exact this
        · rw [if_neg (by rw [decide_eq_false h]; simp), List.append_nil] at hs
          rw [decide_eq_false h]
          simp only [Bool.not_false, Bool.not_true, bif_f]
          refine ih (j + 1) i _ (by omega) (by omega) hB (by rw [ht, hs]) ?_ N (by omega)
          have := congrArg (List.drop 1) hd
          rw [List.drop_drop, List.drop_drop] at this
          exact this
    obtain ⟨v0, hv0⟩ := get_some hi0
    refine key (L.length - (i0 + 1)) (i0 + 1) i0 L (by omega) (by omega) rfl ?_ rfl _ (lt_lim (by omega))
    have hs : (L.take (i0 + 1)).filter (fun x => decide (x ∈ T)) = (L.take i0).filter (fun x => decide (x ∈ T)) ++ (if decide (v0 ∈ T) = true then [v0] else []) := filter_snoc _ hv0
    rw [if_neg (by rw [decide_eq_false (h2 v0 hv0)]; simp), List.append_nil] at hs
    rw [hs, filter_id h1]
theorem common_names {A : List TPerson} (hV : VP A) (m n : List UInt8) : ((A.filter (anc A m)).map (·.1)).filter (fun x => decide (x ∈ (A.filter (anc A n)).map (·.1))) = (A.filter (com A m n)).map (·.1) := by
  rw [List.filter_map, List.filter_filter]
  congr 1
  refine List.filter_congr fun x hx => ?_
  have : decide (x.1 ∈ (A.filter (anc A n)).map (·.1)) = anc A n x := bool_ext (by rw [has_names hV, anc_iff])
  unfold com
  rw [← this, Bool.and_comm]
  rfl
theorem ask2 {r : Bool} {A : List TPerson} {m n : List UInt8} : askCode r A [m, n] = if askCode r A [m] = 0 then (if atP A n < 0 then 3 else 0) else askCode r A [m] := by
  unfold askCode
  cases r
  · simp
  · by_cases h1 : atP A m < 0 <;> by_cases h2 : atP A n < 0 <;> simp [h1, h2]
theorem core_CommonTeachers (A : List TPerson) (m n : List UInt8) (oA : (OkL OkPerson) A) (om : OkS m) (on : OkS n) (sA : (SmL SmPerson) A) (sm : SmS m) (sn : SmS n) : ∃ w, F_spec_CommonTeachers A m n = some w ∧ F_impl_CommonTeachers A m n = some w ∧ (SmL (fun _ => True)) w.1 := by
  obtain ⟨r, h1, h2, h3⟩ := valid_eq oA
  have ha := l30Ask_eq oA h1 m
  have hc := personsCode_eq oA h2 [m, n] (by simp)
  have es : F_spec_CommonTeachers A m n = F_spec_CommonTeachers_j0 A m n (askCode r A [m, n]) := by
    unfold F_spec_CommonTeachers
    rw [ha, ask2]
    simp only [Option.bind_some, bif_dec, l30Find_eq A n oA.1]
    split
    · rename_i h
      split <;> simp_all
    · rfl
  rw [es]
  unfold F_spec_CommonTeachers_j0 F_impl_CommonTeachers
  rw [hc]
  simp only [Option.bind_some, bif_dec]
  by_cases h0 : askCode r A [m, n] = 0
  · obtain ⟨hr, hat⟩ := ask_zero h0
    have hV := h3 hr
    have hm := hat m (by simp)
    have hn := hat n (by simp)
    have hl := hV.len
    obtain ⟨U, e1, hU⟩ := above_eq oA hV hm
    obtain ⟨W, e2, hW⟩ := above_eq oA hV hn
    have hf : ((A.filter (com A m n)).map (·.1)).length ≤ 24 := filter_len hl
    refine ⟨((A.filter (com A m n)).map (·.1), 0), ?_, ?_, by dsimp only; omega, fun _ _ => trivial⟩
    · rw [if_neg (by simp [h0]), l30Find_eq A m oA.1, l30Find_eq A n oA.1]
      simp only [Option.bind_some, e1, e2]
      exact common_spec oA hV hU hW
    · rw [if_neg (by simp [h0]), teachers_impl oA hV hm, teachers_impl oA hV hn]
      simp only [Option.bind_some]
      rw [Delete_eq _ _ (filter_len hl) (filter_len hl), common_names hV]
      rfl
  · exact ⟨([], askCode r A [m, n]), by simp [h0], by simp [h0], by simp [SmL], fun _ h => by simp at h⟩
end Go.Ab
