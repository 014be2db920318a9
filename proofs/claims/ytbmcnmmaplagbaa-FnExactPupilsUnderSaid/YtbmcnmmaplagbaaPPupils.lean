/- PupilsUnder: the program's and the reference's (own text). -/
import Derived.Test.YtbmcnmmaplagbaaPTops
import Derived.Test.YtbmcnmmaplagbaaPFil
set_option linter.unusedVariables false
set_option linter.unusedSimpArgs false
namespace Go.Ab
open Go.RowKit
noncomputable def pup (A : List TPerson) (n : List UInt8) (a : TPerson) : Bool := @decide (Anc A a.1 n) (Classical.propDecidable _)
theorem pup_iff {A : List TPerson} {n : List UInt8} {a : TPerson} : pup A n a = true ↔ Anc A a.1 n := by unfold pup; exact @decide_eq_true_iff _ (Classical.propDecidable _)
theorem bool_ext {a b : Bool} (h : a = true ↔ b = true) : a = b := by cases a <;> cases b <;> simp_all
theorem has_names {A : List TPerson} (hV : VP A) (m n : List UInt8) : decide (n ∈ (A.filter (anc A m)).map (·.1)) = true ↔ Anc A m n := by
  rw [decide_eq_true_iff, List.mem_map]
  constructor
  · rintro ⟨x, hx, rfl⟩
    exact anc_iff.1 (List.mem_filter.1 hx).2
  · intro h
    obtain ⟨q, hq, _, e⟩ := at_pos (h.at hV)
    exact ⟨q, List.mem_filter.2 ⟨get_mem hq, anc_iff.2 (by rw [e]; exact h)⟩, e⟩
theorem room16 {n : Nat} (h : n ≤ 100000) : room n 16 := ⟨by omega, by omega⟩
theorem pupils_spec {A : List TPerson} (oA : OkPersons A) (hV : VP A) {n : List UInt8} (hn : 0 ≤ atP A n) : loop (F_spec_PupilsUnder_l0 A (atP A n)) (0, List.replicate A.length false) = some ((A.filter (pup A n)).map (·.1), 0) := by
  obtain ⟨q, hq, hqi, hqn⟩ := at_pos hn
  obtain ⟨r, e, hr⟩ := loop_ex (body := F_spec_PupilsUnder_l0 A (atP A n)) (s0 := (0, List.replicate A.length false)) (Q := fun r => r = ((A.filter (pup A n)).map (·.1), 0)) (L := A)
    (fun i s => s.1 = (i : Int) ∧ s.2.length = A.length ∧ ∀ (k : Nat) a, k < i → A[k]? = some a → s.2[k]? = some (pup A n a)) oA.1 ⟨rfl, by simp, fun _ _ h => by omega⟩
    (by
      rintro i ⟨_, U⟩ K a ha hi ⟨rfl, hU, hI⟩ hK
      dsimp only at hU hI
      have hat := at_self hV ha
      obtain ⟨W, eW, hW⟩ := above_eq oA hV (n := a.1) (by omega)
      rw [hat] at eW
      obtain ⟨b, hb, _⟩ := ix_len (L := U) (n := (i : Int)) (by omega) (by have := get_lt ha; omega)
      have e1 : anc A a.1 q = pup A n a := bool_ext (by rw [anc_iff, pup_iff, hqn])
      simp only [F_spec_PupilsUnder_l0, int_lt (get_lt ha), bif_t, eW, flags_at hW hqi, hb, Option.bind_some, w64_succ hi, Int.toNat_natCast, e1]
      refine hK _ ⟨rfl, by dsimp only; rw [List.length_set]; exact hU, ?_⟩
      intro k x hk hx
      dsimp only
      by_cases h : k = i
      · subst h
        rw [ha] at hx; cases hx
        rw [List.getElem?_set_self (by rw [hU]; exact get_lt ha)]
      · rw [List.getElem?_set_ne (fun e => h e.symm)]
        exact hI k x (by omega) hx)
    (by
      rintro ⟨_, U⟩ K ⟨rfl, hU, hI⟩
      dsimp only at hU hI
      have hF : Flags A U (pup A n) := ⟨hU, fun k a ha => hI k a (get_lt ha) ha⟩
      refine ⟨_, by simp only [F_spec_PupilsUnder_l0, int_lt_self, bif_f, l30Names_eq hV hF, Option.bind_some], rfl⟩)
  rw [e, hr]
theorem pupils_impl {A : List TPerson} (oA : OkPersons A) (hV : VP A) (n : List UInt8) : loop (F_impl_PupilsUnder_l0 A n) (0, []) = some ((A.filter (pup A n)).map (·.1), 0) := by
  have hl := hV.len
  refine loop_filter (pup A n) (·.1) (fun B => (B, 0)) oA.1 ?_ ?_
  · intro i B k a ha hi hB hlt
    have hat := at_self hV ha
    have hf : ((A.filter (anc A a.1)).map (·.1)).length ≤ 24 := filter_len hl
    have hroom : room (B.length + [a.1].length) 16 := room16 (by simp only [List.length_singleton]; omega)
    have e1 : decide (n ∈ (A.filter (anc A a.1)).map (·.1)) = pup A n a := bool_ext (by rw [has_names hV, pup_iff])
    simp only [F_impl_PupilsUnder_l0, int_lt hlt, bif_t, ix_get ha, Option.bind_some, teachers_impl oA hV (n := a.1) (by omega), Contains_eq ((A.filter (anc A a.1)).map (·.1)) n (by omega), e1, need_true hroom, w64_succ hi]
  · intro B k
    simp only [F_impl_PupilsUnder_l0, int_lt_self, bif_f]
theorem core_PupilsUnder (A : List TPerson) (n : List UInt8) (oA : (OkL OkPerson) A) (on : OkS n) (sA : (SmL SmPerson) A) (sn : SmS n) : ∃ w, F_spec_PupilsUnder A n = some w ∧ F_impl_PupilsUnder A n = some w ∧ (SmL (fun _ => True)) w.1 := by
  obtain ⟨r, h1, h2, h3⟩ := valid_eq oA
  have ha := l30Ask_eq oA h1 n
  have hc := personsCode_eq oA h2 [n] (by simp)
  unfold F_spec_PupilsUnder F_impl_PupilsUnder
  rw [ha, hc]
  simp only [Option.bind_some, bif_dec]
  by_cases h0 : askCode r A [n] = 0
  · obtain ⟨hr, hat⟩ := ask_zero h0
    have hV := h3 hr
    have hat := hat n (by simp)
    have hl := hV.len
    have hf : ((A.filter (pup A n)).map (·.1)).length ≤ 24 := filter_len hl
    refine ⟨((A.filter (pup A n)).map (·.1), 0), ?_, ?_, by dsimp only; omega, fun _ _ => trivial⟩
    · rw [if_neg (by simp [h0]), l30Find_eq A n oA.1]
      simp only [Option.bind_some]
      rw [need_true (by omega), Int.toNat_natCast, pupils_spec oA hV hat]
    · rw [if_neg (by simp [h0]), pupils_impl oA hV n]
  · exact ⟨([], askCode r A [n]), by simp [h0], by simp [h0], by simp [SmL], fun _ h => by simp at h⟩
end Go.Ab
