/- ValidLibrary: the program's and the reference's (own text). -/
import Derived.Test.YtcjbdiiffpkdoaaPMelody
set_option linter.unusedVariables false
set_option linter.unusedSimpArgs false
namespace Go.Ab
open Go.RowKit Go.Proofs
def lib : Option (List UInt8) → List TNamedMelody → Bool
  | _, [] => true
  | none, x :: t => nameOk x.1 && (melOk x.2 && lib (some x.1) t)
  | some q, x :: t => nameOk x.1 && (melOk x.2 && (Op.bytesLess q x.1 && lib (some x.1) t))
def prevM (A : List TNamedMelody) : Nat → Option (List UInt8)
  | 0 => none
  | n + 1 => (A[n]?).map (·.1)
def libOk (A : List TNamedMelody) : Bool := lib none A && decide ((A.length : Int) ≤ 12)
theorem int_pos (n : Nat) : decide ((0 : Int) < ((n + 1 : Nat) : Int)) = true := decide_eq_true (by omega)
theorem l29Library_eq (A : List TNamedMelody) (oA : (OkL OkNamedMelody) A) : F_spec_l29Library A = some (libOk A) := by
  unfold F_spec_l29Library
  rw [loop_at (L := A) (fun i => lib (prevM A i) (A.drop i) && decide ((A.length : Int) ≤ 12)) oA.1]
  · rfl
  · intro i k a ha hi hk
    have o := oA.2 a (get_mem ha)
    have hp : prevM A (i + 1) = some a.1 := by simp [prevM, ha]
    rw [hp] at hk
    rw [drop_cons ha]
    simp only [F_spec_l29Library_l0, int_lt (get_lt ha), bif_t, ix_get ha, Option.bind_some, l01Name_eq a.1 o.1, l09Ok_eq a.2 o.2.1, w64_succ hi, hk]
    cases i with
    | zero =>
      simp only [prevM, lib, Int.ofNat_zero, Int.natCast_zero, Int.lt_irrefl, decide_false, bif_f]
      cases nameOk a.1 <;> cases melOk a.2 <;> rfl
    | succ n =>
      obtain ⟨b, hb⟩ := get_some (L := A) (n := n) (by have := get_lt ha; omega)
      simp only [prevM, hb, Option.map_some, lib, int_pos, bif_t, w64_pred (by omega : n < 9223372036854775807), ix_get hb, ix_get ha, Option.bind_some]
      cases nameOk a.1 <;> cases melOk a.2 <;> cases Op.bytesLess b.1 a.1 <;> rfl
  · intro k
    simp only [F_spec_l29Library_l0, int_lt_self, bif_f, List.drop_length]
    cases prevM A A.length <;> simp [lib]
theorem ValidLibrary_eq (A : List TNamedMelody) (oA : (OkL OkNamedMelody) A) : F_impl_ValidLibrary A = some (libOk A) := by
  unfold F_impl_ValidLibrary
  rw [bif_dec]
  split
  · rename_i hc
    have : decide ((A.length : Int) ≤ 12) = false := decide_eq_false (by omega)
    simp [libOk, this]
  · rename_i hc
    have : decide ((A.length : Int) ≤ 12) = true := decide_eq_true (by omega)
    rw [libOk, this, Bool.and_true]
    rw [loop_at (L := A) (fun i => lib (prevM A i) (A.drop i)) oA.1]
    · rfl
    · intro i k a ha hi hk
      have o := oA.2 a (get_mem ha)
      have hp : prevM A (i + 1) = some a.1 := by simp [prevM, ha]
      rw [hp] at hk
      rw [drop_cons ha]
      simp only [F_impl_ValidLibrary_l0, int_lt (get_lt ha), bif_t, ix_get ha, Option.bind_some, IsName_eq a.1 o.1, ValidMelody_eq a.2 o.2.1, w64_succ hi, hk]
      cases i with
      | zero =>
        simp only [prevM, lib, Int.ofNat_zero, Int.natCast_zero, Int.lt_irrefl, decide_false, bif_f]
        cases nameOk a.1 <;> cases melOk a.2 <;> rfl
      | succ n =>
        obtain ⟨b, hb⟩ := get_some (L := A) (n := n) (by have := get_lt ha; omega)
        simp only [prevM, hb, Option.map_some, lib, int_pos, bif_t, w64_pred (by omega : n < 9223372036854775807), ix_get hb, ix_get ha, Option.bind_some, ← bytes_not (a := b.1) (b := a.1)]
        cases nameOk a.1 <;> cases melOk a.2 <;> cases Op.bytesLess b.1 a.1 <;> rfl
    · intro k
      simp only [F_impl_ValidLibrary_l0, int_lt_self, bif_f, List.drop_length]
      cases prevM A A.length <;> simp [lib]
theorem core_ValidLibrary (A : List TNamedMelody) (oA : (OkL OkNamedMelody) A) (sA : (SmL SmNamedMelody) A) :
    ∃ w, F_spec_ValidLibrary A = some w ∧ F_impl_ValidLibrary A = some w ∧ True := by
  refine ⟨libOk A, ?_, ValidLibrary_eq A oA, trivial⟩
  unfold F_spec_ValidLibrary
  rw [l29Library_eq A oA]; rfl
end Go.Ab
