/- The codes of questions about persons (own text). -/
import Derived.Test.YtcoeihkaikmdpaaPPersons
set_option linter.unusedVariables false
set_option linter.unusedSimpArgs false
namespace Go.Ab
open Go.RowKit

def askCode (r : Bool) (A : List TPerson) (ns : List (List UInt8)) : Int := if r = false then 1 else if ns.any (fun n => decide (atP A n < 0)) = true then 3 else 0
theorem l30Ask_eq {A : List TPerson} (hA : OkPersons A) {r : Bool} (h : F_spec_l30Ok A = some r) (n : List UInt8) : F_spec_l30Ask A n = some (askCode r A [n]) := by
  unfold F_spec_l30Ask askCode
  rw [h, l30Find_eq A n hA.1]
  cases r
  · rfl
  · by_cases h2 : atP A n < 0 <;> simp [h2]
theorem contains_eq {A : List TPerson} (hA : OkPersons A) (ns : List (List UInt8)) (hn : ns.length ≤ 9223372036854775807) : F_slices_ContainsFunc_Sstring_string ns A = some (ns.any fun n => decide (atP A n < 0)) := by
  unfold F_slices_ContainsFunc_Sstring_string F_slices_IndexFunc_Sstring_string
  have := loop_ex (body := F_slices_IndexFunc_Sstring_string_l0 ns A) (L := ns) (s0 := 0) (Q := fun r => decide (0 ≤ r) = ns.any fun n => decide (atP A n < 0)) (fun i s => s = (i : Int) ∧ ∀ n ∈ ns.take i, ¬ atP A n < 0) hn ⟨rfl, by simp⟩ ?_ ?_
  · obtain ⟨r, h1, h2⟩ := this
    rw [h1]
    simp only [Option.bind_some, h2]
  · rintro i _ k a ha hi ⟨rfl, hI⟩ hk
    simp only [F_slices_IndexFunc_Sstring_string_l0, F_impl_personsCode_1, int_lt (get_lt ha), ix_get ha, Option.bind_some, bif_t, personAt_eq A a hA.1, bif_dec, w64_succ hi]
    split
    · rename_i h
      refine ⟨_, rfl, ?_⟩
      rw [decide_eq_true (by omega)]
      symm
      rw [List.any_eq_true]
      exact ⟨a, get_mem ha, decide_eq_true h⟩
    · rename_i h
      refine hk _ ⟨rfl, ?_⟩
      intro x hx
      rw [take_succ ha] at hx
      rcases List.mem_append.1 hx with hx | hx
      · exact hI x hx
      · rw [List.mem_singleton.1 hx]; exact h
  · rintro _ k ⟨rfl, hI⟩
    simp only [F_slices_IndexFunc_Sstring_string_l0, int_lt_self, bif_f]
    refine ⟨_, rfl, ?_⟩
    rw [take_all (Nat.le_refl _)] at hI
    rw [decide_eq_false (by omega)]
    symm
    rw [List.any_eq_false]
    intro x hx
    simpa using hI x hx
theorem personsCode_eq {A : List TPerson} (hA : OkPersons A) {r : Bool} (h : F_impl_ValidPersons A = some r) (ns : List (List UInt8)) (hn : ns.length ≤ 9223372036854775807) : F_impl_personsCode A ns = some (askCode r A ns) := by
  unfold F_impl_personsCode askCode
  rw [h, contains_eq hA ns hn]
  cases r
  · rfl
  · cases h2 : ns.any fun n => decide (atP A n < 0) <;> simp
theorem ask_zero {r : Bool} {A : List TPerson} {ns : List (List UInt8)} (h : askCode r A ns = 0) : r = true ∧ ∀ n ∈ ns, 0 ≤ atP A n := by
  unfold askCode at h
  split at h
  · cases h
  · rename_i h1
    split at h
    · cases h
    · rename_i h2
      refine ⟨by simpa using h1, fun n hn => ?_⟩
      have h2 : (ns.any fun n => decide (atP A n < 0)) = false := by simpa using h2
      rw [List.any_eq_false] at h2
      have := h2 n hn
      simp at this; exact this
theorem at_ix {A : List TPerson} {n : List UInt8} (h : 0 ≤ atP A n) : ∃ p, ix A (atP A n) = some p := by
  have := atP_lt A n
  obtain ⟨q, hq⟩ := get_some (L := A) (n := (atP A n).toNat) (by omega)
  exact ⟨q, by unfold ix; rw [if_pos h]; exact hq⟩
end Go.Ab
