/- ValidMelody: the program's and the reference's (own text). -/
import Derived.Test.YtcjbdiiffpkdoaaPNames
set_option linter.unusedVariables false
set_option linter.unusedSimpArgs false
namespace Go.Ab
open Go.RowKit Go.Proofs
def noteOk (x : TNote) : Bool := decide (-12 ≤ x.1 ∧ x.1 ≤ 23) && decide (1 ≤ x.2 ∧ x.2 ≤ 64)
def melOk (m : List TNote) : Bool := m.all noteOk && decide ((m.length : Int) ≤ 48)
theorem l09Ok_eq (m : List TNote) (h : m.length ≤ 9223372036854775807) : F_spec_l09Ok m = some (melOk m) := by
  unfold F_spec_l09Ok
  refine loop_sfx (L := m) (fun t => t.all noteOk && decide ((m.length : Int) ≤ 48)) h ?_ ?_
  · intro i k a t ha hi hk
    simp only [F_spec_l09Ok_l0, int_lt (get_lt ha), bif_t, ix_get ha, Option.bind_some, F_spec_l03Pitch, F_spec_l09Length, l00In_eq, w64_succ hi, hk, List.all_cons, noteOk]
    cases decide (-12 ≤ a.1 ∧ a.1 ≤ 23) <;> cases decide (1 ≤ a.2 ∧ a.2 ≤ 64) <;> rfl
  · intro k
    simp only [F_spec_l09Ok_l0, int_lt_self, bif_f, List.all_nil, Bool.true_and]
theorem ValidMelody_eq (m : List TNote) (h : m.length ≤ 9223372036854775807) : F_impl_ValidMelody m = some (melOk m) := by
  unfold F_impl_ValidMelody
  rw [bif_dec]
  split
  · rename_i hc
    have : decide ((m.length : Int) ≤ 48) = false := decide_eq_false (by omega)
    simp [melOk, this]
  · rename_i hc
    have : decide ((m.length : Int) ≤ 48) = true := decide_eq_true (by omega)
    rw [melOk, this, Bool.and_true]
    refine loop_sfx (L := m) (fun t => t.all noteOk) h ?_ ?_
    · intro i k a t ha hi hk
      simp only [F_impl_ValidMelody_l0, int_lt (get_lt ha), bif_t, ix_get ha, Option.bind_some, F_impl_pitchOk, F_impl_lengthOk, within_eq, w64_succ hi, hk, List.all_cons, noteOk]
      cases decide (-12 ≤ a.1 ∧ a.1 ≤ 23) <;> cases decide (1 ≤ a.2 ∧ a.2 ≤ 64) <;> rfl
    · intro k
      simp only [F_impl_ValidMelody_l0, int_lt_self, bif_f, List.all_nil]
end Go.Ab
