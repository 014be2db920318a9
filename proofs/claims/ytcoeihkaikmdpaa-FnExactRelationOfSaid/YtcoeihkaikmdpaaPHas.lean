/- Names among names (own text). -/
import Derived.Test.YtcoeihkaikmdpaaPAt
set_option linter.unusedVariables false
set_option linter.unusedSimpArgs false
namespace Go.Ab
open Go.RowKit

theorem Index_eq (L : List (List UInt8)) (n : List UInt8) (hL : L.length ≤ 9223372036854775807) : ∃ r, F_slices_Index_Sstring_string L n = some r ∧ (0 ≤ r ↔ n ∈ L) := by
  unfold F_slices_Index_Sstring_string
  refine loop_ex (L := L) (fun i s => s = (i : Int) ∧ ∀ x ∈ L.take i, x ≠ n) hL ⟨rfl, by simp⟩ ?_ ?_
  · rintro i _ k a ha hi ⟨rfl, hI⟩ hk
    simp only [F_slices_Index_Sstring_string_l0, int_lt (get_lt ha), bif_t, ix_get ha, Option.bind_some, w64_succ hi, bif_dec]
    split
    · rename_i h
      exact ⟨_, rfl, fun _ => by rw [h]; exact get_mem ha, fun _ => by omega⟩
    · rename_i h
      refine hk _ ⟨rfl, fun x hx => ?_⟩
      rw [take_succ ha] at hx
      rcases List.mem_append.1 hx with hx | hx
      · exact hI x hx
      · rw [List.mem_singleton.1 hx]; exact fun e => h e.symm
  · rintro _ k ⟨rfl, hI⟩
    rw [take_all (Nat.le_refl _)] at hI
    simp only [F_slices_Index_Sstring_string_l0, int_lt_self, bif_f]
    exact ⟨_, rfl, fun h => by omega, fun h => absurd rfl (hI n h)⟩
theorem Contains_eq (L : List (List UInt8)) (n : List UInt8) (hL : L.length ≤ 9223372036854775807) : F_slices_Contains_Sstring_string L n = some (decide (n ∈ L)) := by
  obtain ⟨r, h1, h2⟩ := Index_eq L n hL
  unfold F_slices_Contains_Sstring_string
  rw [h1]
  simp only [Option.bind_some, h2]
end Go.Ab
