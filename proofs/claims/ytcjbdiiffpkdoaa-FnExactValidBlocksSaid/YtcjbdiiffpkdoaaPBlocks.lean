/- ValidBlock, ValidBlocks: the program's and the reference's (own text). -/
import Derived.Test.YtcjbdiiffpkdoaaPNames
set_option linter.unusedVariables false
set_option linter.unusedSimpArgs false
namespace Go.Ab
open Go.RowKit
section
variable {α : Type}
/-- Each is right, and each is right behind the one before. -/
def adj (one : α → Bool) (bef : α → α → Bool) : Option α → List α → Bool
  | _, [] => true
  | none, x :: t => one x && adj one bef (some x) t
  | some q, x :: t => one x && (bef q x && adj one bef (some x) t)
def prevA (A : List α) : Nat → Option α
  | 0 => none
  | n + 1 => A[n]?
theorem loop_adj {A : List α} {one : α → Bool} {bef : α → α → Bool} {fin : Bool} {body : (Int → Option Bool) → Int → Option Bool} (hA : A.length ≤ 9223372036854775807)
    (first : ∀ k a, A[0]? = some a → body k 0 = bif one a then k 1 else some false)
    (more : ∀ (i : Nat) k q a, A[i]? = some q → A[i + 1]? = some a → i + 1 < 9223372036854775807 → body k ((i + 1 : Nat) : Int) = bif one a then (bif bef q a then k ((i + 2 : Nat) : Int) else some false) else some false)
    (done : ∀ k, body k (A.length : Int) = some fin) : loop body 0 = some (adj one bef none A && fin) := by
  have := loop_at (L := A) (body := body) (fun i => adj one bef (prevA A i) (A.drop i) && fin) hA ?_ ?_
  · exact this
  · intro i k a ha hi hk
    rw [drop_cons ha]
    cases i with
    | zero =>
      have h1 := first k a ha
      have hp : prevA A 1 = some a := ha
      rw [hp] at hk
      show body k 0 = _
      rw [h1]
      simp only [prevA, adj]
      cases one a
      · rfl
      · exact hk
    | succ n =>
      obtain ⟨q, hq⟩ := get_some (L := A) (n := n) (by have := get_lt ha; omega)
      have h1 := more n k q a hq ha hi
      have hp : prevA A (n + 1 + 1) = some a := ha
      rw [hp] at hk
      rw [h1]
      simp only [prevA, hq, adj]
      cases one a
      · rfl
      · cases bef q a
        · rfl
        · exact hk
  · intro k
    rw [done, List.drop_length]
    cases prevA A A.length <;> simp [adj]
end
theorem byteIdx_pos (s : List UInt8) (c : UInt8) : 0 ≤ byteIdx s c ↔ c ∈ s := by
  unfold byteIdx
  cases h : s.findIdx? (· == c) with
  | none =>
    rw [List.findIdx?_eq_none_iff] at h
    constructor
    · intro h2; exact absurd h2 (by show ¬ (0 : Int) ≤ -1; omega)
    · intro h2; have := h c h2; simp at this
  | some i =>
    constructor
    · intro _
      obtain ⟨h1, h2, _⟩ := List.findIdx?_eq_some_iff_getElem.1 h
      have h2 : s[i] = c := by simpa using h2
      rw [← h2]; exact List.getElem_mem h1
    · intro _; show (0 : Int) ≤ (i : Int); omega
theorem Contains_byte (s : List UInt8) (c : UInt8) : F_strings_Contains s [c] = some (decide (c ∈ s)) := by
  unfold F_strings_Contains F_strings_Index F_stringslite_Index F_stringslite_Index_j0 F_stringslite_IndexByte
  by_cases h : [c] = s
  · subst h; simp
  · simp [h, ix, byteIdx_pos]
/-- A right block. -/
def blkOk (b : TBlock) : Bool := nameOk b.1 && (nameOk b.2.1 && (decide ((b.2.2.length : Int) ≤ 400) && !decide ((10 : UInt8) ∈ b.2.2)))
theorem l29One_eq (b : TBlock) (h1 : b.1.length ≤ 9223372036854775807) (h2 : b.2.1.length ≤ 9223372036854775807) (h3 : b.2.2.length ≤ 9223372036854775807) : F_spec_l29One b = some (blkOk b) := by
  unfold F_spec_l29One
  have := loop_sfx (body := F_spec_l29One_l0 b) (L := b.2.2) (fun t => !decide ((10 : UInt8) ∈ t) && (nameOk b.1 && (nameOk b.2.1 && decide ((b.2.2.length : Int) ≤ 400)))) h3 ?_ ?_
  · rw [this]
    unfold blkOk
    congr 1
    cases nameOk b.1 <;> cases nameOk b.2.1 <;> cases decide ((b.2.2.length : Int) ≤ 400) <;> simp
  · intro i k a t ha hi hk
    simp only [F_spec_l29One_l0, int_lt (get_lt ha), bif_t, ix_get ha, Option.bind_some, w64_succ hi, bif_dec]
    split
    · rename_i h
      have : a = 10 := by
        apply UInt8.toNat_inj.1
        show a.toNat = 10
        omega
      subst this
      simp
    · rename_i h
      have : ¬ a = 10 := by rintro rfl; exact h rfl
      rw [hk]
      have e : ((10 : UInt8) ∈ a :: t) = ((10 : UInt8) ∈ t) := by
        simp only [List.mem_cons, eq_iff_iff, or_iff_right_iff_imp]
        intro e; exact absurd e.symm this
      simp only [e]
  · intro k
    simp only [F_spec_l29One_l0, int_lt_self, bif_f, l01Name_eq b.1 h1, l01Name_eq b.2.1 h2, Option.bind_some]
    cases nameOk b.1 <;> cases nameOk b.2.1 <;> simp
theorem ValidBlock_eq (b : TBlock) (h1 : b.1.length ≤ 9223372036854775807) (h2 : b.2.1.length ≤ 9223372036854775807) : F_impl_ValidBlock b = some (blkOk b) := by
  unfold F_impl_ValidBlock blkOk
  simp only [IsName_eq b.1 h1, IsName_eq b.2.1 h2, Contains_byte, Option.bind_some]
  cases nameOk b.1 <;> cases nameOk b.2.1 <;> cases decide ((b.2.2.length : Int) ≤ 400) <;> rfl
def cmpS (a b : List UInt8) : Int := if Op.bytesLess a b = true then -1 else if a = b then 0 else 1
theorem Compare_eq (a b : List UInt8) : F_cmp_Compare_string a b = some (cmpS a b) := by
  unfold F_cmp_Compare_string F_cmp_isNaN_string cmpS
  cases h : Op.bytesLess a b <;> by_cases h2 : a = b <;> simp [h2]
theorem Or_eq (x y : Int) : F_cmp_Or_int [x, y] = some (if x = 0 then y else x) := by
  unfold F_cmp_Or_int
  have := loop_sfx (body := F_cmp_Or_int_l0 [x, y]) (L := [x, y]) (fun t => (t.find? (fun z => decide (z ≠ 0))).getD 0) (by simp) ?_ ?_
  · rw [this]
    by_cases h1 : x = 0 <;> by_cases h2 : y = 0 <;> simp [h1, h2]
  · intro i k a t ha hi hk
    simp only [F_cmp_Or_int_l0, int_lt (get_lt ha), bif_t, ix_get ha, Option.bind_some, w64_succ hi, bif_dec, hk]
    by_cases h : a = 0 <;> simp [h]
  · intro k
    simp only [F_cmp_Or_int_l0, int_lt_self, bif_f]
    rfl
/-- How blocks are ordered. -/
def blkBef (a b : TBlock) : Bool := Op.bytesLess a.1 b.1 || (decide (a.1 = b.1) && Op.bytesLess a.2.1 b.2.1)
def blkCmp (a b : TBlock) : Int := if cmpS a.1 b.1 = 0 then cmpS a.2.1 b.2.1 else cmpS a.1 b.1
theorem compareBlocks_eq (a b : TBlock) : F_impl_compareBlocks a b = some (blkCmp a b) := by
  unfold F_impl_compareBlocks blkCmp
  simp only [Compare_eq, Option.bind_some, Or_eq]
theorem cmpS_zero (a b : List UInt8) : cmpS a b = 0 ↔ a = b := by
  unfold cmpS
  by_cases h : Op.bytesLess a b = true
  · rw [if_pos h]
    constructor
    · intro h; omega
    · rintro rfl; rw [bytes_irrefl] at h; cases h
  · rw [if_neg h]
    by_cases h2 : a = b
    · simp [h2]
    · rw [if_neg h2]; constructor
      · intro h; omega
      · intro h; exact absurd h h2
theorem cmpS_neg (a b : List UInt8) : cmpS a b < 0 ↔ Op.bytesLess a b = true := by
  unfold cmpS
  by_cases h : Op.bytesLess a b = true
  · rw [if_pos h]; simp [h]
  · rw [if_neg h]
    constructor
    · intro h3; exfalso; split at h3 <;> omega
    · intro h3; exact absurd h3 h
theorem blkCmp_bef (a b : TBlock) : decide (0 ≤ blkCmp a b) = !blkBef a b := by
  have e : blkBef a b = true ↔ blkCmp a b < 0 := by
    unfold blkBef blkCmp
    by_cases h : a.1 = b.1
    · rw [if_pos ((cmpS_zero _ _).2 h), cmpS_neg, h, bytes_irrefl]; simp
    · rw [if_neg (fun e => h ((cmpS_zero _ _).1 e)), cmpS_neg]; simp [h]
  cases h : blkBef a b
  · exact decide_eq_true (by have : ¬ blkCmp a b < 0 := fun h2 => by rw [e.2 h2] at h; cases h
                             omega)
  · exact decide_eq_false (by have := e.1 h; omega)
theorem l29Before_eq (a b : TBlock) : F_spec_l29Before a b = some (blkBef a b) := by
  unfold F_spec_l29Before blkBef
  cases Op.bytesLess a.1 b.1 <;> by_cases h : a.1 = b.1 <;> simp [h]
abbrev OkBlocks (A : List TBlock) : Prop := OkL OkBlock A
def blksOk (A : List TBlock) : Bool := adj blkOk blkBef none A && decide ((A.length : Int) ≤ 32)
theorem int_pos' (n : Nat) : decide ((0 : Int) < ((n + 1 : Nat) : Int)) = true := decide_eq_true (by omega)
theorem l29Ok_eq {A : List TBlock} (oA : OkBlocks A) : F_spec_l29Ok A = some (blksOk A) := by
  unfold F_spec_l29Ok
  refine loop_adj oA.1 ?_ ?_ ?_
  · intro k a ha
    have o := oA.2 a (get_mem ha)
    have hl : decide ((0 : Int) < (A.length : Int)) = true := decide_eq_true (by have := get_lt ha; omega)
    have hix : ix A 0 = some a := by have := ix_get ha; exact this
    simp only [F_spec_l29Ok_l0, hl, bif_t, hix, Option.bind_some, l29One_eq a o.1 o.2.1 o.2.2, Int.lt_irrefl, decide_false, bif_f]
    cases blkOk a <;> rfl
  · intro i k q a hq ha hi
    have o := oA.2 a (get_mem ha)
    simp only [F_spec_l29Ok_l0, int_lt (get_lt ha), bif_t, ix_get ha, Option.bind_some, l29One_eq a o.1 o.2.1 o.2.2, int_pos', w64_pred (show i < 9223372036854775807 by omega), ix_get hq, l29Before_eq, w64_succ hi]
    cases blkOk a <;> cases blkBef q a <;> rfl
  · intro k
    simp only [F_spec_l29Ok_l0, int_lt_self, bif_f]
theorem ValidBlocks_eq {A : List TBlock} (oA : OkBlocks A) : F_impl_ValidBlocks A = some (blksOk A) := by
  unfold F_impl_ValidBlocks
  rw [bif_dec]
  split
  · rename_i hc
    have : decide ((A.length : Int) ≤ 32) = false := decide_eq_false (by omega)
    simp [blksOk, this]
  · rename_i hc
    have : decide ((A.length : Int) ≤ 32) = true := decide_eq_true (by omega)
    rw [blksOk, this]
    refine loop_adj oA.1 ?_ ?_ ?_
    · intro k a ha
      have o := oA.2 a (get_mem ha)
      have hl : decide ((0 : Int) < (A.length : Int)) = true := decide_eq_true (by have := get_lt ha; omega)
      have hix : ix A 0 = some a := by have := ix_get ha; exact this
      simp only [F_impl_ValidBlocks_l0, hl, bif_t, hix, Option.bind_some, ValidBlock_eq a o.1 o.2.1, Int.lt_irrefl, decide_false, bif_f]
      cases blkOk a <;> rfl
    · intro i k q a hq ha hi
      have o := oA.2 a (get_mem ha)
      simp only [F_impl_ValidBlocks_l0, int_lt (get_lt ha), bif_t, ix_get ha, Option.bind_some, ValidBlock_eq a o.1 o.2.1, int_pos', w64_pred (show i < 9223372036854775807 by omega), ix_get hq, compareBlocks_eq, w64_succ hi, blkCmp_bef]
      cases blkOk a <;> cases blkBef q a <;> rfl
    · intro k
      simp only [F_impl_ValidBlocks_l0, int_lt_self, bif_f]
theorem core_ValidBlocks (A : List TBlock) (oA : (OkL OkBlock) A) (sA : (SmL SmBlock) A) :
    ∃ w, F_spec_ValidBlocks A = some w ∧ F_impl_ValidBlocks A = some w ∧ True := by
  refine ⟨blksOk A, ?_, ValidBlocks_eq oA, trivial⟩
  unfold F_spec_ValidBlocks
  rw [l29Ok_eq oA]; rfl
end Go.Ab
