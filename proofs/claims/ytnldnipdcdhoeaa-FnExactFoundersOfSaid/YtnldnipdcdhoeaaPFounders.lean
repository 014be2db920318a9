/- FoundersOf: the program's and the reference's (own text). -/
import Derived.Test.YtnldnipdcdhoeaaPFlags
set_option linter.unusedVariables false
set_option linter.unusedSimpArgs false
namespace Go.Ab
open Go.RowKit
/-- Somebody's teacher. -/
def taught (A : List TPerson) (x : TPerson) : Bool := A.any fun p => decide (x.1 ∈ p.2.2)
def founder (A : List TPerson) (x : TPerson) : Bool := taught A x && decide ((x.2.2.length : Int) = 0)
theorem has_eq {A : List TPerson} (hA : A.length ≤ 9223372036854775807) (hV : VP A) (x : TPerson) : F_slices_ContainsFunc_SPerson_Person A x = some (taught A x) := by
  unfold F_slices_ContainsFunc_SPerson_Person F_slices_IndexFunc_SPerson_Person_1
  obtain ⟨r, h1, h2⟩ := loop_ex (body := F_slices_IndexFunc_SPerson_Person_1_l0 A x) (L := A) (s0 := 0) (Q := fun r => decide (0 ≤ r) = taught A x) (fun i s => s = (i : Int) ∧ ∀ p ∈ A.take i, ¬ x.1 ∈ p.2.2) hA ⟨rfl, by simp⟩
    (by
      rintro i _ k a ha hi ⟨rfl, hI⟩ hk
      have hP := hV.each a (get_mem ha)
      have := hP.few
      simp only [F_slices_IndexFunc_SPerson_Person_1_l0, F_impl_FoundersOf_1, Contains_eq a.2.2 x.1 (by omega), int_lt (get_lt ha), ix_get ha, Option.bind_some, bif_t, bif_dec, w64_succ hi]
      split
      · rename_i h
        refine ⟨_, rfl, ?_⟩
        rw [decide_eq_true (by omega)]
        symm
        unfold taught
        rw [List.any_eq_true]
        exact ⟨a, get_mem ha, decide_eq_true h⟩
      · rename_i h
        refine hk _ ⟨rfl, ?_⟩
        intro p hp
        rw [take_succ ha] at hp
        rcases List.mem_append.1 hp with hp | hp
        · exact hI p hp
        · rw [List.mem_singleton.1 hp]; exact h)
    (by
      rintro _ k ⟨rfl, hI⟩
      simp only [F_slices_IndexFunc_SPerson_Person_1_l0, int_lt_self, bif_f]
      refine ⟨_, rfl, ?_⟩
      rw [take_all (Nat.le_refl _)] at hI
      rw [decide_eq_false (by omega)]
      symm
      unfold taught
      rw [List.any_eq_false]
      intro p hp
      simpa using hI p hp)
  rw [h1]
  simp only [Option.bind_some, h2]
/-- Marks of those whom some name. -/
def namedBy (L : List (List UInt8)) (x : TPerson) : Bool := decide (x.1 ∈ L)
theorem founders_impl {A : List TPerson} (hA : A.length ≤ 9223372036854775807) (hV : VP A) : loop (F_impl_FoundersOf_l0 A) (0, []) = some ((A.filter (founder A)).map (·.1), 0) := by
  have hl := hV.len
  obtain ⟨r, e, hr⟩ := loop_ex (body := F_impl_FoundersOf_l0 A) (s0 := (0, [])) (Q := fun r => r = ((A.filter (founder A)).map (·.1), 0)) (L := A)
    (fun i s => s.1 = (i : Int) ∧ s.2 = ((A.take i).filter (founder A)).map (·.1)) hA ⟨rfl, rfl⟩
    (by
      rintro i ⟨j, B⟩ k a ha hi ⟨rfl, hB⟩ hk
      dsimp only at hB
      have hn := filter_snoc (founder A) ha
      have hr := filter_room (L := A) (i := i) (g := founder A) hl
      have hroom : room (B.length + [a.1].length) 16 := by rw [hB]; constructor <;> simp only [List.length_map, List.length_singleton] <;> omega
      simp only [F_impl_FoundersOf_l0, int_lt (get_lt ha), bif_t, ix_get ha, has_eq hA hV a, Option.bind_some, w64_succ hi, need_true hroom]
      have hno : founder A a = false → ∃ r, k (((i + 1 : Nat) : Int), B) = some r ∧ r = ((A.filter (founder A)).map (·.1), 0) := by
        intro hg
        simp only [hg, Bool.false_eq_true, if_false, List.append_nil] at hn
        exact hk _ ⟨rfl, by rw [hB, hn]⟩
      have hyes : founder A a = true → ∃ r, k (((i + 1 : Nat) : Int), B ++ [a.1]) = some r ∧ r = ((A.filter (founder A)).map (·.1), 0) := by
        intro hg
        simp only [hg, if_true] at hn
        exact hk _ ⟨rfl, by rw [hB, hn]; simp⟩
      by_cases h1 : (a.2.2.length : Int) = 0
      · rw [decide_eq_true h1, bif_t]
        cases h2 : taught A a
        · exact hno (by unfold founder; rw [h2]; rfl)
        · exact hyes (by unfold founder; rw [h2, decide_eq_true h1]; rfl)
      · rw [decide_eq_false h1, bif_f]
        exact hno (by unfold founder; rw [decide_eq_false h1]; simp))
    (by
      rintro ⟨j, B⟩ k ⟨rfl, hB⟩
      refine ⟨(B, 0), by simp [F_impl_FoundersOf_l0], ?_⟩
      dsimp only at hB
      rw [hB, take_all (Nat.le_refl _)])
  rw [e, hr]
theorem founders_last {A : List TPerson} (hA : A.length ≤ 9223372036854775807) (hV : VP A) {U : List Bool} (hU : Flags A U (taught A)) : loop (F_spec_FoundersOf_l4 A) (0, U) = some ((A.filter (founder A)).map (·.1), 0) := by
  obtain ⟨r, e, hr⟩ := loop_ex (body := F_spec_FoundersOf_l4 A) (s0 := (0, U)) (Q := fun r => r = ((A.filter (founder A)).map (·.1), 0)) (L := A)
    (fun i s => s.1 = (i : Int) ∧ Flags A s.2 (fun a => if atP A a.1 < i then founder A a else taught A a)) hA ⟨rfl, flags_congr hU (fun a ha => by
      obtain ⟨j, hj⟩ := List.mem_iff_getElem?.1 ha
      have := at_self hV hj
      rw [if_neg (by omega)])⟩
    (by
      rintro i ⟨j, B⟩ k a ha hi ⟨rfl, hB⟩ hk
      dsimp only at hB
      have hs := at_self hV ha
      have h1 : ix B (i : Int) = some (taught A a) := by
        have := flags_ix hB ha
        rw [if_neg (by omega)] at this
        exact this
      have next : ∀ b, b = founder A a → Flags A (B.set i b) (fun x => if atP A x.1 < ((i + 1 : Nat) : Int) then founder A x else taught A x) := by
        intro b hb
        refine flags_congr (flags_set hV hB ha b) (fun x hx => ?_)
        obtain ⟨q, hq⟩ := List.mem_iff_getElem?.1 hx
        have hsx := at_self hV hq
        by_cases e : x.1 = a.1
        · have := same_name hV.srt hq ha e
          subst this
          rw [ha] at hq; cases hq
          rw [if_pos rfl, if_pos (by omega), hb]
        · rw [if_neg e]
          have hne : q ≠ i := by rintro rfl; rw [ha] at hq; cases hq; exact e rfl
          by_cases h : q < i
          · rw [if_pos (by omega), if_pos (by omega)]
          · rw [if_neg (by omega), if_neg (by omega)]
      simp only [F_spec_FoundersOf_l4, int_lt (get_lt ha), bif_t, ix_get ha, h1, Option.bind_some, w64_succ hi, Int.toNat_natCast]
      cases h2 : taught A a
      · rw [bif_f]
        exact hk _ ⟨rfl, next false (by unfold founder; rw [h2]; rfl)⟩
      · rw [bif_t]
        exact hk _ ⟨rfl, next _ (by unfold founder; rw [h2]; simp)⟩)
    (by
      rintro ⟨j, B⟩ k ⟨rfl, hB⟩
      dsimp only at hB
      have hf := flags_congr (g' := founder A) hB (fun a ha => by
        obtain ⟨j, hj⟩ := List.mem_iff_getElem?.1 ha
        have := at_self hV hj
        have := get_lt hj
        rw [if_pos (by omega)])
      simp only [F_spec_FoundersOf_l4, int_lt_self, bif_f, l30Names_eq hV hf, Option.bind_some]
      exact ⟨_, rfl, rfl⟩)
  rw [e, hr]
theorem founders_spec {A : List TPerson} (hA : A.length ≤ 9223372036854775807) (hV : VP A) : loop (F_spec_FoundersOf_l2 A) (0, List.replicate A.length false) = some ((A.filter (founder A)).map (·.1), 0) := by
  obtain ⟨r, e, hr⟩ := loop_ex (body := F_spec_FoundersOf_l2 A) (s0 := (0, List.replicate A.length false)) (Q := fun r => r = ((A.filter (founder A)).map (·.1), 0)) (L := A)
    (fun i s => s.1 = (i : Int) ∧ Flags A s.2 (taught (A.take i))) hA ⟨rfl, flags_congr (flags_new A false) (fun a _ => by simp [taught])⟩
    (by
      rintro i ⟨j, B⟩ k a ha hi ⟨rfl, hB⟩ hk
      dsimp only at hB
      have hP := hV.each a (get_mem ha)
      have := hP.few
      simp only [F_spec_FoundersOf_l2, int_lt (get_lt ha), bif_t]
      refine loop_ex (L := a.2.2) (fun j s => s.1 = (j : Int) ∧ Flags A s.2 (fun x => taught (A.take i) x || namedBy (a.2.2.take j) x)) (by omega) ⟨rfl, flags_congr hB (fun x _ => by simp [namedBy])⟩ ?_ ?_
      · rintro j ⟨j', C⟩ k2 t ht hj ⟨rfl, hC⟩ hk2
        dsimp only at hC
        obtain ⟨q, hq0, hq, _⟩ := hP.tch t (get_mem ht)
        simp only [F_spec_FoundersOf_l3, ix_get ha, Option.bind_some, int_lt (get_lt ht), bif_t, ix_get ht, l30Find_eq A t hA, flags_at hC hq, w64_succ hj]
        refine hk2 _ ⟨rfl, flags_congr (flags_set_at hV hC hq0 true) (fun x _ => ?_)⟩
        have e : namedBy (a.2.2.take (j + 1)) x = (namedBy (a.2.2.take j) x || decide (x.1 = t)) := by
          unfold namedBy
          rw [take_succ ht]
          by_cases h1 : x.1 ∈ a.2.2.take j <;> by_cases h2 : x.1 = t <;> simp [h1, h2]
        rw [e]
        by_cases h2 : x.1 = t <;> simp [h2]
      · rintro ⟨j', C⟩ k2 ⟨rfl, hC⟩
        dsimp only at hC
        simp only [F_spec_FoundersOf_l3, ix_get ha, Option.bind_some, int_lt_self, bif_f, w64_succ hi]
        refine hk _ ⟨rfl, flags_congr hC (fun x _ => ?_)⟩
        rw [take_all (Nat.le_refl _), take_succ ha]
        simp [taught, namedBy])
    (by
      rintro ⟨j, B⟩ k ⟨rfl, hB⟩
      dsimp only at hB
      rw [take_all (Nat.le_refl _)] at hB
      simp only [F_spec_FoundersOf_l2, int_lt_self, bif_f]
      exact ⟨_, founders_last hA hV hB, rfl⟩)
  rw [e, hr]
theorem core_FoundersOf (A : List TPerson) (oA : (OkL OkPerson) A) (sA : (SmL SmPerson) A) :
    ∃ w, F_spec_FoundersOf A = some w ∧ F_impl_FoundersOf A = some w ∧ (SmL (fun _ => True)) w.1 := by
  obtain ⟨r, h1, h2, h3⟩ := valid_eq oA
  unfold F_spec_FoundersOf F_impl_FoundersOf
  rw [h1, h2]
  simp only [Option.bind_some]
  cases r
  · exact ⟨_, rfl, rfl, by simp [SmL]⟩
  · have hV := h3 rfl
    have hl := hV.len
    refine ⟨((A.filter (founder A)).map (·.1), 0), ?_, by rw [Bool.not_true, bif_f]; exact founders_impl oA.1 hV, ?_⟩
    · rw [Bool.not_true, bif_f, need_true (by omega), Int.toNat_natCast]
      exact founders_spec oA.1 hV
    · have := filter_room (L := A) (i := A.length) (g := founder A) hl
      rw [take_all (Nat.le_refl _)] at this
      exact ⟨by dsimp only; rw [List.length_map]; omega, fun _ _ => trivial⟩
end Go.Ab
