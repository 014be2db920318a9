/- ValidBlock: the program's and the reference's (own text). -/
import Derived.Test.YtbmcnmmaplagbaaPNames
set_option linter.unusedVariables false
set_option linter.unusedSimpArgs false
namespace Go.Ab
open Go.RowKit
section
variable {α : Type}
/-- Each is right, and each is right behind the one before. -/
def adj (one : α → Bool) (bef : α → α → Bool) : Option α → List α → Bool
  | _, [] => true
  | none, x :: t => one x && adj one bef (some x) t
  | some q, x :: t => one x && (bef q x && adj one bef (some x) t)
def prevA (A : List α) : Nat → Option α
  | 0 => none
  | n + 1 => A[n]?
theorem loop_adj {A : List α} {one : α → Bool} {bef : α → α → Bool} {fin : Bool} {body : (Int → Option Bool) → Int → Option Bool} (hA : A.length ≤ 9223372036854775807)
    (first : ∀ k a, A[0]? = some a → body k 0 = bif one a then k 1 else some false)
    (more : ∀ (i : Nat) k q a, A[i]? = some q → A[i + 1]? = some a → i + 1 < 9223372036854775807 → body k ((i + 1 : Nat) : Int) = bif one a then (bif bef q a then k ((i + 2 : Nat) : Int) else some false) else some false)
    (done : ∀ k, body k (A.length : Int) = some fin) : loop body 0 = some (adj one bef none A && fin) := by
  have := loop_at (L := A) (body := body) (fun i => adj one bef (prevA A i) (A.drop i) && fin) hA ?_ ?_
  · exact this
  · intro i k a ha hi hk
    rw [drop_cons ha]
    cases i with
    | zero =>
      have h1 := first k a ha
      have hp : prevA A 1 = some a := ha
      rw [hp] at hk
      show body k 0 = _
      rw [h1]
      simp only [prevA, adj]
      cases one a
      · rfl
      · exact hk
    | succ n =>
      obtain ⟨q, hq⟩ := get_some (L := A) (n := n) (by have := get_lt ha; omega)
      have h1 := more n k q a hq ha hi
      have hp : prevA A (n + 1 + 1) = some a := ha
      rw [hp] at hk
      rw [h1]
      simp only [prevA, hq, adj]
      cases one a
      · rfl
      · cases bef q a
        · rfl
        · exact hk
  · intro k
    rw [done, List.drop_length]
    cases prevA A A.length <;> simp [adj]
end
theorem byteIdx_pos (s : List UInt8) (c : UInt8) : 0 ≤ byteIdx s c ↔ c ∈ s := by
  unfold byteIdx
  cases h : s.findIdx? (· == c) with
  | none =>
    rw [List.findIdx?_eq_none_iff] at h
    constructor
    · intro h2; exact absurd h2 (by show ¬ (0 : Int) ≤ -1; omega)
    · intro h2; have := h c h2; simp at this
  | some i =>
    constructor
    · intro _
      obtain ⟨h1, h2, _⟩ := List.findIdx?_eq_some_iff_getElem.1 h
      have h2 : s[i] = c := by simpa using h2
      rw [← h2]; exact List.getElem_mem h1
    · intro _; show (0 : Int) ≤ (i : Int); omega
theorem Contains_byte (s : List UInt8) (c : UInt8) : F_strings_Contains s [c] = some (decide (c ∈ s)) := by
  unfold F_strings_Contains F_strings_Index F_stringslite_Index F_stringslite_Index_j0 F_stringslite_IndexByte
  by_cases h : [c] = s
  · subst h; simp
  · simp [h, ix, byteIdx_pos]
/-- A right block. -/
def blkOk (b : TBlock) : Bool := nameOk b.1 && (nameOk b.2.1 && (decide ((b.2.2.length : Int) ≤ 400) && !decide ((10 : UInt8) ∈ b.2.2)))
theorem l29One_eq (b : TBlock) (h1 : b.1.length ≤ 9223372036854775807) (h2 : b.2.1.length ≤ 9223372036854775807) (h3 : b.2.2.length ≤ 9223372036854775807) : F_spec_l29One b = some (blkOk b) := by
  unfold F_spec_l29One
  have := loop_sfx (body := F_spec_l29One_l0 b) (L := b.2.2) (fun t => !decide ((10 : UInt8) ∈ t) && (nameOk b.1 && (nameOk b.2.1 && decide ((b.2.2.length : Int) ≤ 400)))) h3 ?_ ?_
  · rw [this]
    unfold blkOk
    congr 1
    cases nameOk b.1 <;> cases nameOk b.2.1 <;> cases decide ((b.2.2.length : Int) ≤ 400) <;> simp
  · intro i k a t ha hi hk
    simp only [F_spec_l29One_l0, int_lt (get_lt ha), bif_t, ix_get ha, Option.bind_some, w64_succ hi, bif_dec]
    split
    · rename_i h
      have : a = 10 := by
        apply UInt8.toNat_inj.1
        show a.toNat = 10
        omega
      subst this
      simp
    · rename_i h
      have : ¬ a = 10 := by rintro rfl; exact h rfl
      rw [hk]
      have e : ((10 : UInt8) ∈ a :: t) = ((10 : UInt8) ∈ t) := by
        simp only [List.mem_cons, eq_iff_iff, or_iff_right_iff_imp]
        intro e; exact absurd e.symm this
      simp only [e]
  · intro k
    simp only [F_spec_l29One_l0, int_lt_self, bif_f, l01Name_eq b.1 h1, l01Name_eq b.2.1 h2, Option.bind_some]
    cases nameOk b.1 <;> cases nameOk b.2.1 <;> simp
theorem ValidBlock_eq (b : TBlock) (h1 : b.1.length ≤ 9223372036854775807) (h2 : b.2.1.length ≤ 9223372036854775807) : F_impl_ValidBlock b = some (blkOk b) := by
  unfold F_impl_ValidBlock blkOk
  simp only [IsName_eq b.1 h1, IsName_eq b.2.1 h2, Contains_byte, Option.bind_some]
  cases nameOk b.1 <;> cases nameOk b.2.1 <;> cases decide ((b.2.2.length : Int) ≤ 400) <;> rfl
end Go.Ab
