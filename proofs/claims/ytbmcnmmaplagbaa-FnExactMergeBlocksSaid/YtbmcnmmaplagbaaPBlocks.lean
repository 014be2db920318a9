/- ValidBlocks: the program's and the reference's (own text). -/
import Derived.Test.YtbmcnmmaplagbaaPBlock
set_option linter.unusedVariables false
set_option linter.unusedSimpArgs false
namespace Go.Ab
open Go.RowKit
def cmpS (a b : List UInt8) : Int := if Op.bytesLess a b = true then -1 else if a = b then 0 else 1
theorem Compare_eq (a b : List UInt8) : F_cmp_Compare_string a b = some (cmpS a b) := by
  unfold F_cmp_Compare_string F_cmp_isNaN_string cmpS
  cases h : Op.bytesLess a b <;> by_cases h2 : a = b <;> simp [h2]
theorem Or_eq (x y : Int) : F_cmp_Or_int [x, y] = some (if x = 0 then y else x) := by
  unfold F_cmp_Or_int
  have := loop_sfx (body := F_cmp_Or_int_l0 [x, y]) (L := [x, y]) (fun t => (t.find? (fun z => decide (z ≠ 0))).getD 0) (by simp) ?_ ?_
  · rw [this]
    by_cases h1 : x = 0 <;> by_cases h2 : y = 0 <;> simp [h1, h2]
  · intro i k a t ha hi hk
    simp only [F_cmp_Or_int_l0, int_lt (get_lt ha), bif_t, ix_get ha, Option.bind_some, w64_succ hi, bif_dec, hk]
    by_cases h : a = 0 <;> simp [h]
  · intro k
    simp only [F_cmp_Or_int_l0, int_lt_self, bif_f]
    rfl
/-- How blocks are ordered. -/
def blkBef (a b : TBlock) : Bool := Op.bytesLess a.1 b.1 || (decide (a.1 = b.1) && Op.bytesLess a.2.1 b.2.1)
def blkCmp (a b : TBlock) : Int := if cmpS a.1 b.1 = 0 then cmpS a.2.1 b.2.1 else cmpS a.1 b.1
theorem compareBlocks_eq (a b : TBlock) : F_impl_compareBlocks a b = some (blkCmp a b) := by
  unfold F_impl_compareBlocks blkCmp
  simp only [Compare_eq, Option.bind_some, Or_eq]
theorem cmpS_zero (a b : List UInt8) : cmpS a b = 0 ↔ a = b := by
  unfold cmpS
  by_cases h : Op.bytesLess a b = true
  · rw [if_pos h]
    constructor
    · intro h; omega
    · rintro rfl; rw [bytes_irrefl] at h; cases h
  · rw [if_neg h]
    by_cases h2 : a = b
    · simp [h2]
    · rw [if_neg h2]; constructor
      · intro h; omega
      · intro h; exact absurd h h2
theorem cmpS_neg (a b : List UInt8) : cmpS a b < 0 ↔ Op.bytesLess a b = true := by
  unfold cmpS
  by_cases h : Op.bytesLess a b = true
  · rw [if_pos h]; simp [h]
  · rw [if_neg h]
    constructor
    · intro h3; exfalso; split at h3 <;> omega
    · intro h3; exact absurd h3 h
theorem blkCmp_bef (a b : TBlock) : decide (0 ≤ blkCmp a b) = !blkBef a b := by
  have e : blkBef a b = true ↔ blkCmp a b < 0 := by
    unfold blkBef blkCmp
    by_cases h : a.1 = b.1
    · rw [if_pos ((cmpS_zero _ _).2 h), cmpS_neg, h, bytes_irrefl]; simp
    · rw [if_neg (fun e => h ((cmpS_zero _ _).1 e)), cmpS_neg]; simp [h]
  cases h : blkBef a b
  · exact decide_eq_true (by have : ¬ blkCmp a b < 0 := fun h2 => by rw [e.2 h2] at h; cases h
                             omega)
  · exact decide_eq_false (by have := e.1 h; omega)
theorem l29Before_eq (a b : TBlock) : F_spec_l29Before a b = some (blkBef a b) := by
  unfold F_spec_l29Before blkBef
  cases Op.bytesLess a.1 b.1 <;> by_cases h : a.1 = b.1 <;> simp [h]
abbrev OkBlocks (A : List TBlock) : Prop := OkL OkBlock A
def blksOk (A : List TBlock) : Bool := adj blkOk blkBef none A && decide ((A.length : Int) ≤ 32)
theorem int_pos' (n : Nat) : decide ((0 : Int) < ((n + 1 : Nat) : Int)) = true := decide_eq_true (by omega)
theorem l29Ok_eq {A : List TBlock} (oA : OkBlocks A) : F_spec_l29Ok A = some (blksOk A) := by
  unfold F_spec_l29Ok
  refine loop_adj oA.1 ?_ ?_ ?_
  · intro k a ha
    have o := oA.2 a (get_mem ha)
    have hl : decide ((0 : Int) < (A.length : Int)) = true := decide_eq_true (by have := get_lt ha; omega)
    have hix : ix A 0 = some a := by have := ix_get ha; exact this
    simp only [F_spec_l29Ok_l0, hl, bif_t, hix, Option.bind_some, l29One_eq a o.1 o.2.1 o.2.2, Int.lt_irrefl, decide_false, bif_f]
    cases blkOk a <;> rfl
  · intro i k q a hq ha hi
    have o := oA.2 a (get_mem ha)
    simp only [F_spec_l29Ok_l0, int_lt (get_lt ha), bif_t, ix_get ha, Option.bind_some, l29One_eq a o.1 o.2.1 o.2.2, int_pos', w64_pred (show i < 9223372036854775807 by omega), ix_get hq, l29Before_eq, w64_succ hi]
    cases blkOk a <;> cases blkBef q a <;> rfl
  · intro k
    simp only [F_spec_l29Ok_l0, int_lt_self, bif_f]
theorem ValidBlocks_eq {A : List TBlock} (oA : OkBlocks A) : F_impl_ValidBlocks A = some (blksOk A) := by
  unfold F_impl_ValidBlocks
  rw [bif_dec]
  split
  · rename_i hc
    have : decide ((A.length : Int) ≤ 32) = false := decide_eq_false (by omega)
    simp [blksOk, this]
  · rename_i hc
    have : decide ((A.length : Int) ≤ 32) = true := decide_eq_true (by omega)
    rw [blksOk, this]
    refine loop_adj oA.1 ?_ ?_ ?_
    · intro k a ha
      have o := oA.2 a (get_mem ha)
      have hl : decide ((0 : Int) < (A.length : Int)) = true := decide_eq_true (by have := get_lt ha; omega)
      have hix : ix A 0 = some a := by have := ix_get ha; exact this
      simp only [F_impl_ValidBlocks_l0, hl, bif_t, hix, Option.bind_some, ValidBlock_eq a o.1 o.2.1, Int.lt_irrefl, decide_false, bif_f]
      cases blkOk a <;> rfl
    · intro i k q a hq ha hi
      have o := oA.2 a (get_mem ha)
      simp only [F_impl_ValidBlocks_l0, int_lt (get_lt ha), bif_t, ix_get ha, Option.bind_some, ValidBlock_eq a o.1 o.2.1, int_pos', w64_pred (show i < 9223372036854775807 by omega), ix_get hq, compareBlocks_eq, w64_succ hi, blkCmp_bef]
      cases blkOk a <;> cases blkBef q a <;> rfl
    · intro k
      simp only [F_impl_ValidBlocks_l0, int_lt_self, bif_f]
end Go.Ab
