import Derived.Test.YtfldoapdidpgdaaPS
import Derived.Test.YtfldoapdidpgdaaPL
import Derived.Test.YtfldoapdidpgdaaB5
set_option linter.unusedVariables false
set_option linter.unusedSimpArgs false
namespace Go.Ab
open Go.RowKit
def nb (b : UInt8) : Bool := decide ((97 ≤ b.toNat ∧ b.toNat ≤ 122) ∨ (48 ≤ b.toNat ∧ b.toNat ≤ 57))
def lowHead : List UInt8 → Bool
 | [] => false
 | b :: _ => decide (97 ≤ b.toNat ∧ b.toNat ≤ 122)
def nameOk (s : List UInt8) : Bool := decide (s.length ≤ 10) && (lowHead s && s.all nb)
theorem l01Small_eq (c : Int) : F_spec_l01Small c = some (decide (97 ≤ c ∧ c ≤ 122)) := by
 unfold F_spec_l01Small
 by_cases h : 97 ≤ c <;> simp [h]
theorem l01Digit_eq (c : Int) : F_spec_l01Digit c = some (decide (48 ≤ c ∧ c ≤ 57)) := by
 unfold F_spec_l01Digit
 by_cases h : 48 ≤ c <;> simp [h]
theorem l01Name_eq (s : List UInt8) (hs : s.length ≤ 9223372036854775807) : F_spec_l01Name s = some (nameOk s) := by
 unfold F_spec_l01Name
 cases s with
 | nil => rfl
 | cons b t =>
  have e : loop (F_spec_l01Name_l0 (b :: t)) 0 = some ((b :: t).all nb) := by
   refine loop_all nb hs ?_ ?_
   ·intro i k a ha hi
    simp only [F_spec_l01Name_l0, int_lt (get_lt ha), ix_get ha, Option.bind_some, bif_t, l01Small_eq, l01Digit_eq, w64_succ hi, ← decide_not, bif_dec, nb]
    repeat' split
    all_goals first | rfl | (exfalso; omega)
   ·intro k; simp [F_spec_l01Name_l0]
  rw [e]
  simp only [reduceCtorEq, decide_false, bif_f, ix_zero, Option.bind_some, l01Small_eq, ← decide_not, bif_dec, nameOk, lowHead]
  split
  ·rename_i h; rw [decide_eq_false (by omega)]; rfl
  ·rename_i h
   rw [decide_eq_true (by omega)]
   split
   ·rename_i h2; rw [decide_eq_false (by omega)]; rfl
   ·rename_i h2; rw [decide_eq_true (by omega)]; rfl
theorem onlyNameBytes_eq (s : List UInt8) (hs : s.length ≤ 9223372036854775807) : F_impl_onlyNameBytes s = some (s.all nb) := by
 unfold F_impl_onlyNameBytes
 refine loop_all nb hs ?_ ?_
 ·intro i k a ha hi
  simp only [F_impl_onlyNameBytes_l0, int_lt (get_lt ha), ix_get ha, Option.bind_some, bif_t, w64_succ hi, bif_dec, nb]
  repeat' split
  all_goals first | rfl | (exfalso; omega)
 ·intro k; simp [F_impl_onlyNameBytes_l0]
theorem IsName_eq (s : List UInt8) (hs : s.length ≤ 9223372036854775807) : F_impl_IsName s = some (nameOk s) := by
 unfold F_impl_IsName
 rw [onlyNameBytes_eq s hs]
 cases s with
 | nil => rfl
 | cons b t =>
  simp only [ix_zero, Option.bind_some, bif_dec, nameOk, lowHead]
  split
  ·rename_i h; simp at h; omega
  ·split
   ·rename_i h; rw [decide_eq_false (by omega)]; rfl
   ·rename_i h
    rw [decide_eq_true (by omega)]
    split
    ·rename_i h2; rw [decide_eq_false (by omega)]; rfl
    ·split
     ·rename_i h2; rw [decide_eq_false (by omega)]; rfl
     ·rw [decide_eq_true (by omega)]; rfl
end Go.Ab
set_option linter.unusedVariables false
set_option linter.unusedSimpArgs false
namespace Go.Ab
open Go.RowKit
section
variable {α : Type}
def adj (one : α → Bool) (bef : α → α → Bool) : Option α → List α → Bool
 | _, [] => true
 | none, x :: t => one x && adj one bef (some x) t
 | some q, x :: t => one x && (bef q x && adj one bef (some x) t)
def prevA (A : List α) : Nat → Option α
 | 0 => none
 | n + 1 => A[n]?
theorem loop_adj {A : List α} {one : α → Bool} {bef : α → α → Bool} {fin : Bool} {body : (Int → Option Bool) → Int → Option Bool} (hA : A.length ≤ 9223372036854775807)
  (first : ∀ k a, A[0]? = some a → body k 0 = bif one a then k 1 else some false)
  (more : ∀ (i : Nat) k q a, A[i]? = some q → A[i + 1]? = some a → i + 1 < 9223372036854775807 → body k ((i + 1 : Nat) : Int) = bif one a then (bif bef q a then k ((i + 2 : Nat) : Int) else some false) else some false)
  (done : ∀ k, body k (A.length : Int) = some fin) : loop body 0 = some (adj one bef none A && fin) := by
 have := loop_at (L := A) (body := body) (fun i => adj one bef (prevA A i) (A.drop i) && fin) hA ?_ ?_
 ·exact this
 ·intro i k a ha hi hk
  rw [drop_cons ha]
  cases i with
  | zero =>
   have h1 := first k a ha
   have hp : prevA A 1 = some a := ha
   rw [hp] at hk
   show body k 0 = _
   rw [h1]
   simp only [prevA, adj]
   cases one a
   ·rfl
   ·exact hk
  | succ n =>
   obtain ⟨q, hq⟩ := get_some (L := A) (n := n) (by have := get_lt ha; omega)
   have h1 := more n k q a hq ha hi
   have hp : prevA A (n + 1 + 1) = some a := ha
   rw [hp] at hk
   rw [h1]
   simp only [prevA, hq, adj]
   cases one a
   ·rfl
   ·cases bef q a
    ·rfl
    ·exact hk
 ·intro k
  rw [done, List.drop_length]
  cases prevA A A.length <;> simp [adj]
end
theorem byteIdx_pos (s : List UInt8) (c : UInt8) : 0 ≤ byteIdx s c ↔ c ∈ s := by
 unfold byteIdx
 cases h : s.findIdx? (· == c) with
 | none =>
  rw [List.findIdx?_eq_none_iff] at h
  constructor
  ·intro h2; exact absurd h2 (by show ¬ (0 : Int) ≤ -1; omega)
  ·intro h2; have := h c h2; simp at this
 | some i =>
  constructor
  ·intro _
   obtain ⟨h1, h2, _⟩ := List.findIdx?_eq_some_iff_getElem.1 h
   have h2 : s[i] = c := by simpa using h2
   rw [← h2]; exact List.getElem_mem h1
  ·intro _; show (0 : Int) ≤ (i : Int); omega
theorem Contains_byte (s : List UInt8) (c : UInt8) : F_strings_Contains s [c] = some (decide (c ∈ s)) := by
 unfold F_strings_Contains F_strings_Index F_stringslite_Index F_stringslite_Index_j0 F_stringslite_IndexByte
 by_cases h : [c] = s
 ·subst h; simp
 ·simp [h, ix, byteIdx_pos]
def blkOk (b : TBlock) : Bool := nameOk b.1 && (nameOk b.2.1 && (decide ((b.2.2.length : Int) ≤ 400) && !decide ((10 : UInt8) ∈ b.2.2)))
theorem l29One_eq (b : TBlock) (h1 : b.1.length ≤ 9223372036854775807) (h2 : b.2.1.length ≤ 9223372036854775807) (h3 : b.2.2.length ≤ 9223372036854775807) : F_spec_l29One b = some (blkOk b) := by
 unfold F_spec_l29One
 have := loop_sfx (body := F_spec_l29One_l0 b) (L := b.2.2) (fun t => !decide ((10 : UInt8) ∈ t) && (nameOk b.1 && (nameOk b.2.1 && decide ((b.2.2.length : Int) ≤ 400)))) h3 ?_ ?_
 ·rw [this]
  unfold blkOk
  congr 1
  cases nameOk b.1 <;> cases nameOk b.2.1 <;> cases decide ((b.2.2.length : Int) ≤ 400) <;> simp
 ·intro i k a t ha hi hk
  simp only [F_spec_l29One_l0, int_lt (get_lt ha), bif_t, ix_get ha, Option.bind_some, w64_succ hi, bif_dec]
  split
  ·rename_i h
   have : a = 10 := by
    apply UInt8.toNat_inj.1
    show a.toNat = 10
    omega
   subst this
   simp
  ·rename_i h
   have : ¬ a = 10 := by rintro rfl; exact h rfl
   rw [hk]
   have e : ((10 : UInt8) ∈ a :: t) = ((10 : UInt8) ∈ t) := by
    simp only [List.mem_cons, eq_iff_iff, or_iff_right_iff_imp]
    intro e; exact absurd e.symm this
   simp only [e]
 ·intro k
  simp only [F_spec_l29One_l0, int_lt_self, bif_f, l01Name_eq b.1 h1, l01Name_eq b.2.1 h2, Option.bind_some]
  cases nameOk b.1 <;> cases nameOk b.2.1 <;> simp
theorem ValidBlock_eq (b : TBlock) (h1 : b.1.length ≤ 9223372036854775807) (h2 : b.2.1.length ≤ 9223372036854775807) : F_impl_ValidBlock b = some (blkOk b) := by
 unfold F_impl_ValidBlock blkOk
 simp only [IsName_eq b.1 h1, IsName_eq b.2.1 h2, Contains_byte, Option.bind_some]
 cases nameOk b.1 <;> cases nameOk b.2.1 <;> cases decide ((b.2.2.length : Int) ≤ 400) <;> rfl
end Go.Ab
set_option linter.unusedVariables false
set_option linter.unusedSimpArgs false
namespace Go.Ab
open Go.RowKit
def cmpS (a b : List UInt8) : Int := if Op.bytesLess a b = true then -1 else if a = b then 0 else 1
theorem Compare_eq (a b : List UInt8) : F_cmp_Compare_string a b = some (cmpS a b) := by
 unfold F_cmp_Compare_string F_cmp_isNaN_string cmpS
 cases h : Op.bytesLess a b <;> by_cases h2 : a = b <;> simp [h2]
theorem Or_eq (x y : Int) : F_cmp_Or_int [x, y] = some (if x = 0 then y else x) := by
 unfold F_cmp_Or_int
 have := loop_sfx (body := F_cmp_Or_int_l0 [x, y]) (L := [x, y]) (fun t => (t.find? (fun z => decide (z ≠ 0))).getD 0) (by simp) ?_ ?_
 ·rw [this]
  by_cases h1 : x = 0 <;> by_cases h2 : y = 0 <;> simp [h1, h2]
 ·intro i k a t ha hi hk
  simp only [F_cmp_Or_int_l0, int_lt (get_lt ha), bif_t, ix_get ha, Option.bind_some, w64_succ hi, bif_dec, hk]
  by_cases h : a = 0 <;> simp [h]
 ·intro k
  simp only [F_cmp_Or_int_l0, int_lt_self, bif_f]
  rfl
def blkBef (a b : TBlock) : Bool := Op.bytesLess a.1 b.1 || (decide (a.1 = b.1) && Op.bytesLess a.2.1 b.2.1)
def blkCmp (a b : TBlock) : Int := if cmpS a.1 b.1 = 0 then cmpS a.2.1 b.2.1 else cmpS a.1 b.1
theorem compareBlocks_eq (a b : TBlock) : F_impl_compareBlocks a b = some (blkCmp a b) := by
 unfold F_impl_compareBlocks blkCmp
 simp only [Compare_eq, Option.bind_some, Or_eq]
theorem cmpS_zero (a b : List UInt8) : cmpS a b = 0 ↔ a = b := by
 unfold cmpS
 by_cases h : Op.bytesLess a b = true
 ·rw [if_pos h]
  constructor
  ·intro h; omega
  ·rintro rfl; rw [bytes_irrefl] at h; cases h
 ·rw [if_neg h]
  by_cases h2 : a = b
  ·simp [h2]
  ·rw [if_neg h2]; constructor
   ·intro h; omega
   ·intro h; exact absurd h h2
theorem cmpS_neg (a b : List UInt8) : cmpS a b < 0 ↔ Op.bytesLess a b = true := by
 unfold cmpS
 by_cases h : Op.bytesLess a b = true
 ·rw [if_pos h]; simp [h]
 ·rw [if_neg h]
  constructor
  ·intro h3; exfalso; split at h3 <;> omega
  ·intro h3; exact absurd h3 h
theorem blkCmp_bef (a b : TBlock) : decide (0 ≤ blkCmp a b) = !blkBef a b := by
 have e : blkBef a b = true ↔ blkCmp a b < 0 := by
  unfold blkBef blkCmp
  by_cases h : a.1 = b.1
  ·rw [if_pos ((cmpS_zero _ _).2 h), cmpS_neg, h, bytes_irrefl]; simp
  ·rw [if_neg (fun e => h ((cmpS_zero _ _).1 e)), cmpS_neg]; simp [h]
 cases h : blkBef a b
 ·exact decide_eq_true (Int.not_lt.1 fun h2 => by rw [e.2 h2] at h; cases h)
 ·exact decide_eq_false (by have := e.1 h; omega)
theorem l29Before_eq (a b : TBlock) : F_spec_l29Before a b = some (blkBef a b) := by
 unfold F_spec_l29Before blkBef
 cases Op.bytesLess a.1 b.1 <;> by_cases h : a.1 = b.1 <;> simp [h]
abbrev OkBlocks (A : List TBlock) : Prop := OkL OkBlock A
end Go.Ab
set_option linter.unusedVariables false
set_option linter.unusedSimpArgs false
namespace Go.Ab
open Go.RowKit
def blksOk (A : List TBlock) : Bool := adj blkOk blkBef none A && decide ((A.length : Int) ≤ 32)
theorem int_pos' (n : Nat) : decide ((0 : Int) < ((n + 1 : Nat) : Int)) = true := decide_eq_true (by omega)
theorem ValidBlocks_eq {A : List TBlock} (oA : OkBlocks A) : F_impl_ValidBlocks A = some (blksOk A) := by
 unfold F_impl_ValidBlocks
 rw [bif_dec]
 split
 ·rename_i hc
  have : decide ((A.length : Int) ≤ 32) = false := decide_eq_false (by omega)
  simp [blksOk, this]
 ·rename_i hc
  have : decide ((A.length : Int) ≤ 32) = true := decide_eq_true (by omega)
  rw [blksOk, this]
  refine loop_adj oA.1 ?_ ?_ ?_
  ·intro k a ha
   have o := oA.2 a (get_mem ha)
   have hl : decide ((0 : Int) < (A.length : Int)) = true := decide_eq_true (by have := get_lt ha; omega)
   have hix : ix A 0 = some a := by have := ix_get ha; exact this
   simp only [F_impl_ValidBlocks_l0, hl, bif_t, hix, Option.bind_some, ValidBlock_eq a o.1 o.2.1, Int.lt_irrefl, decide_false, bif_f]
   cases blkOk a <;> rfl
  ·intro i k q a hq ha hi
   have o := oA.2 a (get_mem ha)
   simp only [F_impl_ValidBlocks_l0, int_lt (get_lt ha), bif_t, ix_get ha, Option.bind_some, ValidBlock_eq a o.1 o.2.1, int_pos', w64_pred (show i < 9223372036854775807 by omega), ix_get hq, compareBlocks_eq, w64_succ hi, blkCmp_bef]
   cases blkOk a <;> cases blkBef q a <;> rfl
  ·intro k
   simp only [F_impl_ValidBlocks_l0, int_lt_self, bif_f]
end Go.Ab
set_option linter.unusedVariables false
set_option linter.unusedSimpArgs false
namespace Go.Ab
open Go.RowKit
theorem l29Ok_eq {A : List TBlock} (oA : OkBlocks A) : F_spec_l29Ok A = some (blksOk A) := by
 unfold F_spec_l29Ok
 refine loop_adj oA.1 ?_ ?_ ?_
 ·intro k a ha
  have o := oA.2 a (get_mem ha)
  have hl : decide ((0 : Int) < (A.length : Int)) = true := decide_eq_true (by have := get_lt ha; omega)
  have hix : ix A 0 = some a := by have := ix_get ha; exact this
  simp only [F_spec_l29Ok_l0, hl, bif_t, hix, Option.bind_some, l29One_eq a o.1 o.2.1 o.2.2, Int.lt_irrefl, decide_false, bif_f]
  cases blkOk a <;> rfl
 ·intro i k q a hq ha hi
  have o := oA.2 a (get_mem ha)
  simp only [F_spec_l29Ok_l0, int_lt (get_lt ha), bif_t, ix_get ha, Option.bind_some, l29One_eq a o.1 o.2.1 o.2.2, int_pos', w64_pred (show i < 9223372036854775807 by omega), ix_get hq, l29Before_eq, w64_succ hi]
  cases blkOk a <;> cases blkBef q a <;> rfl
 ·intro k
  simp only [F_spec_l29Ok_l0, int_lt_self, bif_f]
end Go.Ab
set_option linter.unusedVariables false
set_option linter.unusedSimpArgs false
namespace Go.Ab
open Go.RowKit
theorem half_eq (i j : Nat) (h : i + j ≤ 9223372036854775807) : w64 (Int.fdiv (IntKind.wrap .u64 (w64 ((i : Int) + (j : Int)))) (2 ^ (min ((1 : Int)).toNat (IntKind.bits .u64)))) = (((i + j) / 2 : Nat) : Int) := by
 have e1 : w64 ((i : Int) + (j : Int)) = ((i + j : Nat) : Int) := by rw [w64_id (by omega)]; omega
 have e2 : IntKind.wrap .u64 ((i + j : Nat) : Int) = ((i + j : Nat) : Int) := by
  simp only [IntKind.wrap, IntKind.signed, IntKind.bits]
  have : (((i + j : Nat) : Int) % 2 ^ 64) = ((i + j : Nat) : Int) := Int.emod_eq_of_lt (by omega) (by omega)
  simp [this]
  try omega
 rw [e1, e2]
 have e3 : (2 : Int) ^ (min ((1 : Int)).toNat (IntKind.bits .u64)) = 2 := rfl
 have e4 : Int.fdiv ((i + j : Nat) : Int) 2 = (((i + j) / 2 : Nat) : Int) := by
  rw [Int.fdiv_eq_ediv_of_nonneg _ (by omega)]
  omega
 rw [e3, e4, w64_id (by omega)]
def cut {α : Type} (c : α → Int) (A : List α) : Nat := (A.takeWhile fun x => decide (c x < 0)).length
theorem cut_le {α : Type} (c : α → Int) (A : List α) : cut c A ≤ A.length := by
 unfold cut
 exact (List.takeWhile_prefix _).length_le
theorem cut_lt {α : Type} {c : α → Int} : ∀ {A : List α} {k : Nat} {x : α}, A[k]? = some x → k < cut c A → c x < 0
 | [], k, x, h, _ => by simp at h
 | a :: A, k, x, h, hk => by
  unfold cut at hk
  rw [List.takeWhile_cons] at hk
  split at hk
  ·rename_i ha
   cases k with
   | zero => simp at h; subst h; exact of_decide_eq_true ha
   | succ k => simp at h hk; exact cut_lt (A := A) h hk
  ·simp at hk
theorem cut_at {α : Type} {c : α → Int} : ∀ {A : List α} {x : α}, A[cut c A]? = some x → ¬ c x < 0
 | [], x, h => by simp at h
 | a :: A, x, h => by
  unfold cut at h
  rw [List.takeWhile_cons] at h
  split at h
  ·simp at h; exact cut_at (A := A) h
  ·rename_i ha
   simp at h; subst h
   intro h2; exact ha (decide_eq_true h2)
theorem loop_search {α R : Type} {A : List α} {c : α → Int} {body : (Int × Int → Option R) → Int × Int → Option R} (fin : Nat → R) (hA : A.length ≤ 4611686018427387903)
  (mono : ∀ (i j : Nat) x y, i < j → A[i]? = some x → A[j]? = some y → c y < 0 → c x < 0)
  (step : ∀ (i j : Nat) k x, i < j → j ≤ A.length → A[(i + j) / 2]? = some x → body k ((i : Int), (j : Int)) = bif decide (c x < 0) then k ((((i + j) / 2 + 1 : Nat) : Int), (j : Int)) else k ((i : Int), (((i + j) / 2 : Nat) : Int)))
  (done : ∀ (i : Nat) k, i ≤ A.length → body k ((i : Int), (i : Int)) = some (fin i)) : loop body (0, (A.length : Int)) = some (fin (cut c A)) := by
 have below : ∀ (i : Nat) x, A[i]? = some x → c x < 0 → i < cut c A := by
  intro i x hx hc
  rcases Nat.lt_or_ge i (cut c A) with h | h
  ·exact h
  ·exfalso
   obtain ⟨y, hy⟩ := get_some (L := A) (n := cut c A) (by have := get_lt hx; omega)
   have hn := cut_at hy
   rcases Nat.lt_or_ge (cut c A) i with h2 | h2
   ·exact hn (mono _ _ y x h2 hy hx hc)
   ·have : i = cut c A := by omega
    subst this
    rw [hx] at hy; cases hy
    exact hn hc
 obtain ⟨r, e, hr⟩ := loop_mu (body := body) (s0 := ((0 : Int), (A.length : Int))) (Q := fun r => r = fin (cut c A))
  (fun s => ∃ i j : Nat, s = ((i : Int), (j : Int)) ∧ i ≤ cut c A ∧ cut c A ≤ j ∧ j ≤ A.length) (fun s => (s.2 - s.1).toNat) ⟨0, A.length, rfl, Nat.zero_le _, cut_le c A, Nat.le_refl _⟩ (lt_lim (by simp; omega))
  (by
   rintro _ k ⟨i, j, rfl, h1, h2, h3⟩ hk
   by_cases hij : i < j
   ·obtain ⟨x, hx⟩ := get_some (L := A) (n := (i + j) / 2) (by omega)
    rw [step i j k x hij h3 hx, bif_dec]
    split
    ·rename_i hc
     have := below _ x hx hc
     exact hk _ ⟨(i + j) / 2 + 1, j, rfl, by omega, h2, h3⟩ (by simp; omega)
    ·rename_i hc
     refine hk _ ⟨i, (i + j) / 2, rfl, h1, ?_, by omega⟩ (by simp; omega)
     rcases Nat.lt_or_ge ((i + j) / 2) (cut c A) with h | h
     ·exact absurd (cut_lt hx h) hc
     ·exact h
   ·have : i = j := by omega
    subst this
    have : i = cut c A := by omega
    refine ⟨_, done i k h3, by rw [this]⟩)
 rw [e, hr]
end Go.Ab
set_option linter.unusedVariables false
set_option linter.unusedSimpArgs false
namespace Go.Ab
open Go.RowKit
theorem bef_irr (a : TBlock) : blkBef a a = false := by unfold blkBef; simp [bytes_irrefl]
theorem bef_trans {a b c : TBlock} (h : blkBef a b = true) (h' : blkBef b c = true) : blkBef a c = true := by
 unfold blkBef at *
 simp only [Bool.or_eq_true, Bool.and_eq_true, decide_eq_true_eq] at *
 rcases h with h | ⟨h1, h2⟩
 ·rcases h' with h' | ⟨h3, h4⟩
  ·exact .inl (bytes_trans h h')
  ·rw [← h3]; exact .inl h
 ·rcases h' with h' | ⟨h3, h4⟩
  ·rw [h1]; exact .inl h'
  ·exact .inr ⟨h1.trans h3, bytes_trans h2 h4⟩
theorem bef_cmp (a b : TBlock) : blkBef a b = true ↔ blkCmp a b < 0 := by
 have := blkCmp_bef a b
 cases h : blkBef a b
 ·rw [h] at this
  have := of_decide_eq_true this
  constructor
  ·intro h; cases h
  ·intro h; omega
 ·rw [h] at this
  have := of_decide_eq_false this
  constructor
  ·intro _; omega
  ·intro _; rfl
def sameKey (a b : TBlock) : Prop := a.1 = b.1 ∧ a.2.1 = b.2.1
theorem cmp_key (a b : TBlock) : blkCmp a b = 0 ↔ sameKey a b := by
 unfold blkCmp sameKey
 by_cases h : a.1 = b.1
 ·rw [if_pos ((cmpS_zero _ _).2 h), cmpS_zero]; simp [h]
 ·rw [if_neg (fun e => h ((cmpS_zero _ _).1 e)), cmpS_zero]; simp [h]
theorem bef_key {a b c : TBlock} (h : sameKey b c) : blkBef a b = blkBef a c := by
 unfold blkBef; rw [h.1, h.2]
theorem key_bef {a b c : TBlock} (h : sameKey b c) : blkBef b a = blkBef c a := by
 unfold blkBef; rw [h.1, h.2]
structure Srt (A : List TBlock) : Prop where
 ok : ∀ x ∈ A, blkOk x = true
 srt : ∀ (i j : Nat) x y, i < j → A[i]? = some x → A[j]? = some y → blkBef x y = true
def cutB (A : List TBlock) (t : TBlock) : Nat := cut (fun x => blkCmp x t) A
def hasB (A : List TBlock) (t : TBlock) : Bool := match A[cutB A t]? with
 | some x => decide (blkCmp x t = 0)
 | none => false
theorem search_eq {A : List TBlock} (h : Srt A) (hA : A.length ≤ 4611686018427387903) (t : TBlock) : F_slices_BinarySearchFunc_SBlock_Block A t = some ((cutB A t : Int), hasB A t) := by
 unfold F_slices_BinarySearchFunc_SBlock_Block
 refine loop_search (c := fun x => blkCmp x t) (fun n => ((n : Int), match A[n]? with
  | some x => decide (blkCmp x t = 0)
  | none => false)) hA ?_ ?_ ?_
 ·intro i j x y hij hx hy hc
  exact (bef_cmp x t).1 (bef_trans (h.srt i j x y hij hx hy) ((bef_cmp y t).2 hc))
 ·intro i j k x hij hj hx
  have hlt : decide ((i : Int) < (j : Int)) = true := decide_eq_true (by omega)
  have e : w64 ((((i + j) / 2 : Nat) : Int) + 1) = (((i + j) / 2 + 1 : Nat) : Int) := w64_succ (by omega)
  simp only [F_slices_BinarySearchFunc_SBlock_Block_l0, hlt, bif_t, need_true (show (0 : Int) ≤ 1 by omega), half_eq i j (by omega), ix_get hx, Option.bind_some, compareBlocks_eq, e]
 ·intro i k hi
  simp only [F_slices_BinarySearchFunc_SBlock_Block_l0, Int.lt_irrefl, decide_false, bif_f]
  rcases Nat.lt_or_ge i A.length with h1 | h1
  ·obtain ⟨x, hx⟩ := get_some (L := A) (n := i) h1
   simp only [int_lt h1, bif_t, ix_get hx, Option.bind_some, compareBlocks_eq, hx]
  ·have : A[i]? = none := List.getElem?_eq_none h1
   have hn : decide ((i : Int) < (A.length : Int)) = false := decide_eq_false (by omega)
   simp only [hn, bif_f, this]
theorem cutB_le (A : List TBlock) (t : TBlock) : cutB A t ≤ A.length := cut_le _ _
theorem has_some {A : List TBlock} {t : TBlock} (h : hasB A t = true) : ∃ x, A[cutB A t]? = some x ∧ sameKey x t := by
 unfold hasB at h
 split at h
 ·rename_i x hx
  exact ⟨x, hx, (cmp_key x t).1 (of_decide_eq_true h)⟩
 ·cases h
theorem has_at {A : List TBlock} (hs : Srt A) {t : TBlock} {i : Nat} {x : TBlock} (hx : A[i]? = some x) (hk : sameKey x t) : i = cutB A t ∧ hasB A t = true := by
 have h0 := (cmp_key x t).2 hk
 have e : i = cutB A t := by
  rcases Nat.lt_trichotomy i (cutB A t) with h1 | h1 | h1
  ·have := cut_lt (c := fun x => blkCmp x t) hx h1
   omega
  ·exact h1
  ·exfalso
   obtain ⟨y, hy⟩ := get_some (L := A) (n := cutB A t) (by have := get_lt hx; omega)
   have := cut_at (c := fun x => blkCmp x t) hy
   have h2 := hs.srt _ _ y x h1 hy hx
   rw [bef_key hk] at h2
   exact this ((bef_cmp y t).1 h2)
 refine ⟨e, ?_⟩
 unfold hasB
 rw [← e, hx]
 exact decide_eq_true h0
end Go.Ab
set_option linter.unusedVariables false
set_option linter.unusedSimpArgs false
namespace Go.Ab
open Go.RowKit
theorem CloneB_eq {A : List TBlock} (h : room A.length 48) : F_slices_Clone_SBlock_Block A = some A := by
 unfold F_slices_Clone_SBlock_Block
 have e : F_slices_Clone_SBlock_Block_j0 A = some A := by unfold F_slices_Clone_SBlock_Block_j0; rw [need_true h]
 rw [e, bif_dec]
 split
 ·rename_i h0
  have : A = [] := List.eq_nil_of_length_eq_zero (by omega)
  subst this
  exact both_eq rfl
 ·rfl
theorem room48 {n : Nat} (h : n ≤ 100000) : room n 48 := ⟨by omega, by omega⟩
def afterB (A : List TBlock) (t : TBlock) : Nat := if hasB A t = true then cutB A t + 1 else cutB A t
def insB (A : List TBlock) (t : TBlock) : List TBlock := A.take (cutB A t) ++ t :: A.drop (afterB A t)
theorem after_le (A : List TBlock) (t : TBlock) : cutB A t ≤ afterB A t ∧ afterB A t ≤ cutB A t + 1 ∧ afterB A t ≤ A.length := by
 have hc := cutB_le A t
 unfold afterB
 split
 ·rename_i h
  obtain ⟨x, hx, _⟩ := has_some h
  have := get_lt hx
  omega
 ·omega
theorem insB_len (A : List TBlock) (t : TBlock) : (insB A t).length ≤ A.length + 1 := by
 have hc := cutB_le A t
 have := after_le A t
 unfold insB
 rw [List.length_append, List.length_cons, List.length_take, List.length_drop]
 omega
theorem withBlock_eq {A : List TBlock} (hs : Srt A) (hl : A.length ≤ 1000) (t : TBlock) : F_impl_withBlock A t = some (insB A t) := by
 have hc := cutB_le A t
 unfold F_impl_withBlock
 rw [search_eq hs (by omega), CloneB_eq (room48 (by omega))]
 simp only [Option.bind_some]
 unfold insB afterB
 cases hh : hasB A t
 ·have hr : room (A.length + 1) 48 := room48 (by omega)
  simp only [bif_f, F_ins, List.length_singleton]
  rw [need_true ⟨by omega, by omega, hr⟩]
  simp
 ·obtain ⟨x, hx, _⟩ := has_some hh
  have hlt := get_lt hx
  simp only [bif_t, ix_get hx, Option.bind_some, Int.toNat_natCast, if_true]
  rw [List.set_eq_take_append_cons_drop, if_pos hlt]
theorem bef_tot {x y : TBlock} (h1 : blkBef x y = false) (h2 : ¬ sameKey x y) : blkBef y x = true := by
 have key : ∀ a b : List UInt8, Op.bytesLess a b = false → a ≠ b → Op.bytesLess b a = true := by
  intro a b h hn
  rcases bytes_tri a b with h1 | h1 | h1
  ·rw [h] at h1; cases h1
  ·exact absurd h1 hn
  ·exact h1
 unfold blkBef at *
 rw [Bool.or_eq_false_iff] at h1
 by_cases e : x.1 = y.1
 ·rw [decide_eq_true e, Bool.true_and] at h1
  have := key _ _ h1.2 (fun e2 => h2 ⟨e, e2⟩)
  simp [e, this]
 ·have := key _ _ h1.1 e
  simp [this]
theorem cut_bef {A : List TBlock} {t : TBlock} {k : Nat} {x : TBlock} (hx : A[k]? = some x) (hk : k < cutB A t) : blkBef x t = true :=
 (bef_cmp x t).2 (cut_lt (c := fun x => blkCmp x t) hx hk)
theorem cut_aft {A : List TBlock} (hs : Srt A) {t : TBlock} {k : Nat} {x : TBlock} (hx : A[k]? = some x) (hk : afterB A t ≤ k) : blkBef t x = true := by
 have hlt := get_lt hx
 unfold afterB at hk
 cases hh : hasB A t
 ·rw [hh] at hk
  simp only [Bool.false_eq_true, if_false] at hk
  obtain ⟨y, hy⟩ := get_some (L := A) (n := cutB A t) (by omega)
  have h1 : blkBef y t = false := by
   cases h : blkBef y t
   ·rfl
   ·exact absurd ((bef_cmp y t).1 h) (cut_at (c := fun x => blkCmp x t) hy)
  have h2 : ¬ sameKey y t := fun hk2 => by
   have := (has_at hs hy hk2).2
   rw [hh] at this; cases this
  have h3 := bef_tot h1 h2
  by_cases e : k = cutB A t
  ·subst e; rw [hx] at hy; cases hy; exact h3
  ·exact bef_trans h3 (hs.srt _ _ y x (by omega) hy hx)
 ·rw [hh] at hk
  simp only [if_true] at hk
  obtain ⟨y, hy, hk2⟩ := has_some hh
  rw [← key_bef hk2]
  exact hs.srt _ _ y x (by omega) hy hx
theorem srt_pw {A : List TBlock} : (∀ (i j : Nat) x y, i < j → A[i]? = some x → A[j]? = some y → blkBef x y = true) ↔ List.Pairwise (fun x y => blkBef x y = true) A := by
 rw [List.pairwise_iff_getElem]
 constructor
 ·intro h i j hi hj hij
  exact h i j _ _ hij (List.getElem?_eq_getElem hi) (List.getElem?_eq_getElem hj)
 ·intro h i j x y hij hx hy
  have h1 := get_lt hx
  have h2 := get_lt hy
  have := h i j h1 h2 hij
  rw [List.getElem?_eq_getElem h1] at hx
  rw [List.getElem?_eq_getElem h2] at hy
  cases hx; cases hy; exact this
theorem insB_srt {A : List TBlock} (hs : Srt A) {t : TBlock} (ht : blkOk t = true) : Srt (insB A t) := by
 refine ⟨fun x hx => ?_, srt_pw.2 ?_⟩
 ·rcases List.mem_append.1 hx with h | h
  ·exact hs.ok x (List.mem_of_mem_take h)
  ·rcases List.mem_cons.1 h with h | h
   ·rw [h]; exact ht
   ·exact hs.ok x (List.mem_of_mem_drop h)
 ·have hp := srt_pw.1 hs.srt
  unfold insB
  have h1 : ∀ x ∈ A.take (cutB A t), blkBef x t = true := by
   intro x hx
   obtain ⟨k, hk⟩ := List.mem_iff_getElem?.1 hx
   rw [List.getElem?_take] at hk
   split at hk
   ·exact cut_bef hk (by assumption)
   ·cases hk
  have h2 : ∀ x ∈ A.drop (afterB A t), blkBef t x = true := by
   intro x hx
   obtain ⟨k, hk⟩ := List.mem_iff_getElem?.1 hx
   rw [List.getElem?_drop] at hk
   exact cut_aft hs hk (by omega)
  rw [List.pairwise_append]
  refine ⟨hp.sublist (List.take_sublist _ _), List.pairwise_cons.2 ⟨h2, hp.sublist (List.drop_sublist _ _)⟩, ?_⟩
  intro x hx y hy
  rcases List.mem_cons.1 hy with h | h
  ·rw [h]; exact h1 x hx
  ·exact bef_trans (h1 x hx) (h2 y h)
theorem l29Put_eq {A : List TBlock} (hs : Srt A) (hl : A.length ≤ 1000) (t : TBlock) : F_spec_l29Put A t = some (insB A t) := by
 have hc := cutB_le A t
 have hd := after_le A t
 unfold F_spec_l29Put
 obtain ⟨r, e, hr⟩ := loop_ex (body := F_spec_l29Put_l0 A t) (s0 := (false, 0, [])) (L := A) (Q := fun r => r = insB A t)
  (fun i s => s.2.1 = (i : Int) ∧ (i ≤ cutB A t → s.1 = false ∧ s.2.2 = A.take i) ∧ (cutB A t < i → s.1 = true ∧ s.2.2 = A.take (cutB A t) ++ t :: (A.take i).drop (afterB A t))) (by omega) ⟨rfl, fun _ => ⟨rfl, rfl⟩, fun h => by omega⟩
  (by
   rintro i ⟨b, _, O⟩ K a ha hi ⟨rfl, h1, h2⟩ hK
   dsimp only at h1 h2
   have hlt := get_lt ha
   have ha2 := ix_get ha
   have next1 : ∀ (b : Bool) (O : List TBlock), O.length ≤ 2000 → sameKey a t → F_spec_l29Put_j1 A t (i : Int) K b O = K (b, ((i + 1 : Nat) : Int), O) := by
    intro b O hO h
    simp only [F_spec_l29Put_j1, ha2, Option.bind_some, w64_succ hi, bif_dec]
    rw [if_neg (fun e => e h.1), if_neg (fun e => e h.2)]
   have next2 : ∀ (b : Bool) (O : List TBlock), O.length ≤ 2000 → ¬ sameKey a t → F_spec_l29Put_j1 A t (i : Int) K b O = K (b, ((i + 1 : Nat) : Int), O ++ [a]) := by
    intro b O hO h
    have hr : room (O.length + [a].length) 48 := room48 (by simp only [List.length_singleton]; omega)
    simp only [F_spec_l29Put_j1, ha2, Option.bind_some, need_true hr, w64_succ hi, bif_dec]
    by_cases e1 : a.1 = t.1
    ·rw [if_neg (fun e => e e1), if_pos (fun e2 => h ⟨e1, e2⟩)]
    ·rw [if_pos e1]
   simp only [F_spec_l29Put_l0, int_lt hlt, bif_t, ha2, Option.bind_some, l29Before_eq]
   rcases Nat.lt_trichotomy i (cutB A t) with hic | hic | hic
   ·obtain ⟨rfl, rfl⟩ := h1 (by omega)
    have hb := cut_bef ha hic
    have hnk : ¬ sameKey a t := fun h => by rw [key_bef h, bef_irr] at hb; cases hb
    simp only [Bool.not_false, bif_t, hb, Bool.not_true, bif_f]
    rw [next2 _ _ (by rw [List.length_take]; omega) hnk]
    exact hK _ ⟨rfl, fun _ => ⟨rfl, (take_succ ha).symm⟩, fun h => by omega⟩
   ·obtain ⟨rfl, rfl⟩ := h1 (by omega)
    have hb : blkBef a t = false := by
     subst hic
     cases h : blkBef a t
     ·rfl
     ·exact absurd ((bef_cmp a t).1 h) (cut_at (c := fun x => blkCmp x t) ha)
    have hr : room ((A.take i).length + [t].length) 48 := room48 (by simp only [List.length_take, List.length_singleton]; omega)
    simp only [Bool.not_false, bif_t, hb]
    rw [need_true hr]
    have hO : (A.take i ++ [t]).length ≤ 2000 := by simp only [List.length_append, List.length_take, List.length_singleton]; omega
    by_cases hk : sameKey a t
    ·have hh : hasB A t = true := (has_at hs ha hk).2
     have hd2 : afterB A t = cutB A t + 1 := by unfold afterB; rw [if_pos hh]
     rw [next1 _ _ hO hk]
     refine hK _ ⟨rfl, fun h => by omega, fun _ => ⟨rfl, ?_⟩⟩
     dsimp only
     rw [hd2, ← hic, List.drop_eq_nil_of_le (by rw [List.length_take]; omega)]
    ·have hh : hasB A t = false := by
      cases h : hasB A t
      ·rfl
      ·obtain ⟨x, hx, hk2⟩ := has_some h
       rw [← hic, ha] at hx; cases hx; exact absurd hk2 hk
     have hd2 : afterB A t = cutB A t := by unfold afterB; rw [hh]; rfl
     rw [next2 _ _ hO hk]
     refine hK _ ⟨rfl, fun h => by omega, fun _ => ⟨rfl, ?_⟩⟩
     dsimp only
     rw [hd2, ← hic, take_succ ha, List.drop_append_of_le_length (by rw [List.length_take]; omega), List.drop_eq_nil_of_le (by rw [List.length_take]; omega)]
     simp
   ·obtain ⟨rfl, rfl⟩ := h2 hic
    have hb := cut_aft hs (t := t) ha (by omega)
    have hnk : ¬ sameKey a t := fun h => by rw [bef_key h, bef_irr] at hb; cases hb
    simp only [Bool.not_true, bif_f]
    rw [next2 _ _ (by simp only [List.length_append, List.length_cons, List.length_take, List.length_drop]; omega) hnk]
    refine hK _ ⟨rfl, fun h => by omega, fun _ => ⟨rfl, ?_⟩⟩
    dsimp only
    rw [take_succ ha, List.drop_append_of_le_length (by rw [List.length_take]; omega)]
    simp)
  (by
   rintro ⟨b, _, O⟩ K ⟨rfl, h1, h2⟩
   dsimp only at h1 h2
   simp only [F_spec_l29Put_l0, int_lt_self, bif_f]
   rcases Nat.lt_or_ge (cutB A t) A.length with hic | hic
   ·obtain ⟨rfl, rfl⟩ := h2 hic
    simp only [Bool.not_true, bif_f]
    refine ⟨_, rfl, ?_⟩
    unfold insB
    rw [take_all (Nat.le_refl _)]
   ·have hce : cutB A t = A.length := by omega
    obtain ⟨rfl, rfl⟩ := h1 (by omega)
    have hr : room ((A.take A.length).length + [t].length) 48 := room48 (by simp only [List.length_take, List.length_singleton]; omega)
    simp only [Bool.not_false, bif_t]
    rw [need_true hr]
    refine ⟨_, rfl, ?_⟩
    unfold insB
    rw [hce, take_all (Nat.le_refl _), List.drop_eq_nil_of_le (by omega)])
 rw [e, hr]
end Go.Ab
set_option linter.unusedVariables false
set_option linter.unusedSimpArgs false
namespace Go.Ab
open Go.RowKit
theorem take_pre {α : Type} {A B : List α} {n : Nat} (h : A.length = n) : (A ++ B).take n = A := by
 subst h; simp
theorem del_sub {α : Type} {A : List α} {i j : Nat} (hij : i ≤ j) (hj : j ≤ A.length) (z : α) :
  sub (clrL (inL A (i : Int) (j : Int) (A.length : Int)) ((0 : Int) + (((i : Int) + ((A.length : Int) - (j : Int))) - (0 : Int))) ((0 : Int) + (A.length : Int)) z) (0 : Int) ((i : Int) + ((A.length : Int) - (j : Int))) = A.take i ++ A.drop j := by
 have e1 : ((i : Int) + ((A.length : Int) - (j : Int))).toNat = i + (A.length - j) := by omega
 have e2 : ((0 : Int) + (((i : Int) + ((A.length : Int) - (j : Int))) - (0 : Int))).toNat = i + (A.length - j) := by omega
 have hB : (A.take i ++ A.drop j).length = i + (A.length - j) := by simp; omega
 unfold sub clrL inL sub
 rw [e1, e2]
 simp only [Int.toNat_natCast, List.take_length]
 rw [take_pre hB, List.append_assoc, take_pre hB]
 rfl
end Go.Ab
set_option linter.unusedVariables false
set_option linter.unusedSimpArgs false
namespace Go.Ab
open Go.RowKit
def Src (N : Int) (s : TL00Src) : Prop := (∀ b ∈ s.1, 0 ≤ b ∧ b ≤ 255) ∧ 0 ≤ s.2.1 ∧ s.2.1 ≤ N
theorem Src.up {N M : Int} {s : TL00Src} (h : Src N s) (hm : N ≤ M) : Src M s := ⟨h.1, h.2.1, Int.le_trans h.2.2 hm⟩
theorem and255 (x : Int) : 0 ≤ bitAnd .u64 x 255 ∧ bitAnd .u64 x 255 ≤ 255 := by
 unfold bitAnd
 have h : (BitVec.ofInt (IntKind.bits .u64) x &&& BitVec.ofInt (IntKind.bits .u64) 255).toNat ≤ 255 := by
  rw [BitVec.toNat_and]
  exact Nat.le_trans Nat.and_le_right (by decide)
 rw [IntWalk.u64_in _ (by omega)]
 omega
theorem w64_and (x : Int) : 0 ≤ w64 (bitAnd .u64 x 255) ∧ w64 (bitAnd .u64 x 255) ≤ 255 := by
 have := and255 x
 rw [w64_id (by omega)]
 exact this
theorem next_ok {N : Int} (hN : N ≤ 1000000) {s : TL00Src} (h : Src N s) : ∃ s' x, F_spec_l00Src_next s = some (s', x) ∧ 0 ≤ x ∧ x ≤ 255 ∧ Src (N + 1) s' := by
 obtain ⟨c, a, z⟩ := s
 obtain ⟨h1, h2, h3⟩ := h
 dsimp only at h1 h2 h3
 have key : ∀ b : Int, 0 ≤ b → b ≤ 255 → ∃ s' x, F_spec_l00Src_next_j0 (c, a, z) b = some (s', x) ∧ 0 ≤ x ∧ x ≤ 255 ∧ Src (N + 1) s' := by
  intro b hb1 hb2
  unfold F_spec_l00Src_next_j0
  rw [bif_dec, w64_id (x := a + 1) (by omega)]
  split
  ·exact ⟨_, _, rfl, hb1, hb2, h1, by dsimp only; omega, by dsimp only; omega⟩
  ·rw [need_true (by decide)]
   exact ⟨_, _, rfl, (w64_and _).1, (w64_and _).2, h1, by dsimp only; omega, by dsimp only; omega⟩
 unfold F_spec_l00Src_next
 rw [bif_dec]
 split
 ·rename_i hlt
  dsimp only at hlt
  obtain ⟨b, hb⟩ := get_some (L := c) (n := a.toNat) (by omega)
  have hix : ix c a = some b := by
   have := ix_get hb
   rw [Int.toNat_of_nonneg h2] at this
   exact this
  dsimp only
  rw [hix, Option.bind_some]
  have := h1 b (get_mem hb)
  rw [w64_id (by omega)]
  exact key b this.1 this.2
 ·exact key 0 (by omega) (by omega)
theorem pick_ok {N n : Int} (hN : N ≤ 900000) (hn : 1 ≤ n ∧ n ≤ 200) {s : TL00Src} (h : Src N s) : ∃ s' x, F_spec_l00Src_pick s n = some (s', x) ∧ 0 ≤ x ∧ x < n ∧ Src (N + 1) s' := by
 unfold F_spec_l00Src_pick
 rw [bif_dec]
 split
 ·exact ⟨_, _, rfl, by omega, by omega, h.up (by omega)⟩
 ·rename_i hn1
  obtain ⟨s', x, e, hx1, hx2, hs⟩ := next_ok (by omega) h
  rw [e, Option.bind_some, bif_dec, if_neg (by omega)]
  unfold F_spec_l00Src_pick_j0
  rw [need_true (by omega)]
  exact ⟨_, _, rfl, Int.tmod_nonneg _ hx1, Int.tmod_lt_of_pos _ (by omega), hs⟩
theorem ix_in {α : Type} {L : List α} {x : Int} (h0 : 0 ≤ x) (h1 : x < L.length) : ∃ a, ix L x = some a ∧ a ∈ L := by
 obtain ⟨a, ha⟩ := get_some (L := L) (n := x.toNat) (by omega)
 refine ⟨a, ?_, get_mem ha⟩
 have := ix_get ha
 rw [Int.toNat_of_nonneg h0] at this
 exact this
theorem text_ok {N : Int} (hN : N ≤ 900000) {L : List (List UInt8)} (hL : 1 ≤ L.length ∧ L.length ≤ 200) {s : TL00Src} (h : Src N s) : ∃ s' t, F_spec_l00Src_text s L = some (s', t) ∧ t ∈ L ∧ Src (N + 1) s' := by
 unfold F_spec_l00Src_text
 obtain ⟨s', x, e, hx1, hx2, hs⟩ := pick_ok (n := (L.length : Int)) hN (by omega) h
 obtain ⟨t, ht, hm⟩ := ix_in hx1 hx2
 rw [e, Option.bind_some]
 dsimp only
 rw [ht, Option.bind_some]
 exact ⟨_, _, rfl, hm, hs⟩
theorem among_ok {N : Int} (hN : N ≤ 900000) {L : List Int} (hL : 1 ≤ L.length ∧ L.length ≤ 200) {s : TL00Src} (h : Src N s) : ∃ s' t, F_spec_l00Src_among s L = some (s', t) ∧ t ∈ L ∧ Src (N + 1) s' := by
 unfold F_spec_l00Src_among
 obtain ⟨s', x, e, hx1, hx2, hs⟩ := pick_ok (n := (L.length : Int)) hN (by omega) h
 obtain ⟨t, ht, hm⟩ := ix_in hx1 hx2
 rw [e, Option.bind_some]
 dsimp only
 rw [ht, Option.bind_some]
 exact ⟨_, _, rfl, hm, hs⟩
theorem one_ok {N n : Int} (hN : N ≤ 900000) (hn : 1 ≤ n ∧ n ≤ 200) {s : TL00Src} (h : Src N s) : ∃ s' b, F_spec_l00Src_one s n = some (s', b) ∧ Src (N + 1) s' := by
 unfold F_spec_l00Src_one
 obtain ⟨s', x, e, _, _, hs⟩ := pick_ok hN hn h
 rw [e, Option.bind_some]
 exact ⟨_, _, rfl, hs⟩
theorem bytesI_len (L : List Int) : (bytesI L).length = L.length := by unfold bytesI; simp
theorem room_small {n b : Nat} (h : n ≤ 1000000) (hb : b ≤ 1000) : room n b := by
 refine ⟨by omega, ?_⟩
 have := Nat.mul_le_mul h hb
 omega
theorem word_ok {N n : Int} (hN : N ≤ 800000) (hn : 1 ≤ n ∧ n ≤ 200) {s : TL00Src} (h : Src N s) : ∃ s' t, F_spec_l00Src_word s n = some (s', t) ∧ (t.length : Int) ≤ n ∧ Src (N + 1 + n) s' := by
 unfold F_spec_l00Src_word
 obtain ⟨s', x, e, hx1, hx2, hs⟩ := pick_ok (by omega) hn h
 rw [e, Option.bind_some]
 obtain ⟨r, hr, hq⟩ := loop_mu (body := F_spec_l00Src_word_l0) (s0 := (x, s'.1, s'.2.1, s'.2.2, []))
  (Q := fun r : TL00Src × List UInt8 => (r.2.length : Int) ≤ n ∧ Src (N + 1 + n) r.1)
  (fun s => 0 ≤ s.1 ∧ s.1 ≤ x ∧ Src (N + 1 + (x - s.1)) (s.2.1, s.2.2.1, s.2.2.2.1) ∧ (s.2.2.2.2.length : Int) ≤ x - s.1) (fun s => s.1.toNat)
  ⟨hx1, Int.le_refl _, hs.up (by dsimp only; omega), by dsimp only [List.length_nil]; omega⟩ (lt_lim (by dsimp only; omega))
  (by
   rintro ⟨k, c, a, z, O⟩ K ⟨q1, q2, q3, q4⟩ hK
   dsimp only at q1 q2 q3 q4
   simp only [F_spec_l00Src_word_l0, bif_dec]
   split
   ·rename_i hk
    obtain ⟨s2, y, e2, _, _, hs2⟩ := next_ok (by omega) q3
    rw [e2, Option.bind_some, need_true (room_small (by simp only [List.length_singleton]; omega) (by omega)), w64_id (by omega)]
    refine hK _ ⟨by dsimp only; omega, by dsimp only; omega, hs2.up (by dsimp only; omega), ?_⟩ (by dsimp only; omega)
    dsimp only
    rw [List.length_append, List.length_singleton]
    omega
   ·exact ⟨_, rfl, by dsimp only; rw [bytesI_len]; omega, q3.up (by omega)⟩)
 exact ⟨r.1, r.2, hr, hq.1, hq.2⟩
end Go.Ab
set_option linter.unusedVariables false
set_option linter.unusedSimpArgs false
namespace Go.Ab
open Go.RowKit
theorem min_eq (x y : Int) : F_spec_l00Min x y = some (if x < y then x else y) := by
 unfold F_spec_l00Min; rw [bif_dec]; split <;> rfl
theorem max_eq (x y : Int) : F_spec_l00Max x y = some (if y < x then x else y) := by
 unfold F_spec_l00Max; rw [bif_dec]; split <;> rfl
def lens7 : List Int := [1, 1, 2, 2, 3, 4, 6]
def noteIn (x : TNote) : Prop := (-12 ≤ x.1 ∧ x.1 ≤ 23) ∧ x.2 ∈ lens7
theorem melDraw_ok {N : Int} (hN : N ≤ 700000) {s : TL00Src} (h : Src N s) : ∃ s' m, F_spec_l09Draw s = some (s', m) ∧ m.length ≤ 9 ∧ (∀ x ∈ m, noteIn x) ∧ Src (N + 20) s' := by
 unfold F_spec_l09Draw
 obtain ⟨s1, p, e1, hp1, hp2, h1⟩ := pick_ok (n := 12) (by omega) (by omega) h
 rw [e1, Option.bind_some]
 obtain ⟨s2, y, e2, hy1, hy2, h2⟩ := pick_ok (n := 10) (by omega) (by omega) h1
 dsimp only
 rw [e2, Option.bind_some]
 obtain ⟨r, hr, hq⟩ := loop_mu (body := F_spec_l09Draw_l0) (s0 := (p, y, s2.1, s2.2.1, s2.2.2, []))
  (Q := fun r : TL00Src × List TNote => r.2.length ≤ 9 ∧ (∀ x ∈ r.2, noteIn x) ∧ Src (N + 20) r.1)
  (fun s => (-12 ≤ s.1 ∧ s.1 ≤ 23) ∧ (0 ≤ s.2.1 ∧ s.2.1 ≤ y) ∧ Src (N + 2 + 2 * (y - s.2.1)) (s.2.2.1, s.2.2.2.1, s.2.2.2.2.1) ∧ (s.2.2.2.2.2.length : Int) ≤ y - s.2.1 ∧ ∀ x ∈ s.2.2.2.2.2, noteIn x) (fun s => s.2.1.toNat)
  ⟨⟨by dsimp only; omega, by dsimp only; omega⟩, ⟨hy1, Int.le_refl _⟩, h2.up (by dsimp only; omega), by dsimp only [List.length_nil]; omega, by simp⟩ (lt_lim (by dsimp only; omega))
  (by
   rintro ⟨p, k, c, a, z, O⟩ K ⟨q1, q2, q3, q4, q5⟩ hK
   dsimp only at q1 q2 q3 q4 q5
   simp only [F_spec_l09Draw_l0]
   rw [bif_dec]
   split
   ·rename_i hk
    obtain ⟨s3, d, e3, hd1, hd2, h3⟩ := pick_ok (n := 9) (by omega) (by omega) q3
    obtain ⟨s4, l, e4, hl, h4⟩ := among_ok (L := lens7) (by omega) (by decide) h3
    have e4 : F_spec_l00Src_among s3 [(1 : Int), (1 : Int), (2 : Int), (2 : Int), (3 : Int), (4 : Int), (6 : Int)] = some (s4, l) := e4
    rw [e3, Option.bind_some]
    dsimp only
    rw [w64_id (x := p + d) (by omega), w64_id (x := p + d - 4) (by omega), min_eq, Option.bind_some, max_eq, Option.bind_some, e4, Option.bind_some]
    dsimp only
    rw [need_true (room_small (by simp only [List.length_singleton]; omega) (by omega)), w64_id (by omega)]
    have hn : ∀ v : Int, v = (if (if 23 < p + d - 4 then 23 else p + d - 4) < -12 then (-12 : Int) else if 23 < p + d - 4 then 23 else p + d - 4) → -12 ≤ v ∧ v ≤ 23 := by
     intro v hv
     split at hv <;> split at hv <;> omega
    have hn := hn _ rfl
    refine hK _ ⟨hn, ⟨by dsimp only; omega, by dsimp only; omega⟩, h4.up (by dsimp only; omega), ?_, ?_⟩ (by dsimp only; omega)
    ·dsimp only
     rw [List.length_append, List.length_singleton]
     omega
    ·intro x hx
     rcases List.mem_append.1 hx with hx | hx
     ·exact q5 x hx
     ·rw [List.mem_singleton.1 hx]
      exact ⟨hn, hl⟩
   ·exact ⟨_, rfl, by dsimp only; omega, q5, q3.up (by omega)⟩)
 exact ⟨r.1, r.2, hr, hq.1, hq.2.1, hq.2.2⟩
theorem name_all : ∀ k : Fin 36, (F_spec_l09Name ((k.val : Int) - 12)).isSome = true ∧ ((F_spec_l09Name ((k.val : Int) - 12)).getD []).length ≤ 2 := by decide +kernel
theorem name_ok {p : Int} (h : -12 ≤ p ∧ p ≤ 23) : ∃ t, F_spec_l09Name p = some t ∧ t.length ≤ 2 := by
 have := name_all ⟨(p + 12).toNat, by omega⟩
 have e : (((⟨(p + 12).toNat, by omega⟩ : Fin 36).val : Int) - 12) = p := by
  show (((p + 12).toNat : Int) - 12) = p
  omega
 rw [e] at this
 obtain ⟨t, ht⟩ := Option.isSome_iff_exists.1 this.1
 rw [ht] at this
 exact ⟨t, ht, this.2⟩
theorem dec_all : ∀ k : Fin 7, (F_spec_l01Dec (k.val : Int)).isSome = true ∧ ((F_spec_l01Dec (k.val : Int)).getD []).length ≤ 1 := by decide +kernel
theorem dec_ok {n : Int} (h : n ∈ lens7) : ∃ t, F_spec_l01Dec n = some t ∧ t.length ≤ 1 := by
 have hn : 0 ≤ n ∧ n ≤ 6 := by
  simp [lens7] at h; omega
 have := dec_all ⟨n.toNat, by omega⟩
 have e : ((⟨n.toNat, by omega⟩ : Fin 7).val : Int) = n := by
  show (n.toNat : Int) = n
  omega
 rw [e] at this
 obtain ⟨t, ht⟩ := Option.isSome_iff_exists.1 this.1
 rw [ht] at this
 exact ⟨t, ht, this.2⟩
theorem melText_ok {m : List TNote} (hl : m.length ≤ 9) (hm : ∀ x ∈ m, noteIn x) : ∃ t, F_spec_l09Text m = some t ∧ t.length ≤ 1000 := by
 unfold F_spec_l09Text
 rw [bif_dec]
 split
 ·exact ⟨_, rfl, by decide⟩
 ·refine loop_ex (L := m) (fun i s => s.2 = (i : Int) ∧ s.1.length ≤ 4 * i) (by omega) ⟨rfl, by simp⟩ ?_ ?_
  ·rintro i ⟨t, _⟩ K a ha hi ⟨rfl, h1⟩ hK
   dsimp only at h1
   have hlt := get_lt ha
   have hn := hm a (get_mem ha)
   obtain ⟨u, hu, hu2⟩ := name_ok hn.1
   obtain ⟨d, hd, hd2⟩ := dec_ok hn.2
   have key : ∀ t : List UInt8, t.length ≤ 4 * i + 1 → ∃ r, F_spec_l09Text_j1 m (i : Int) K t = some r ∧ r.length ≤ 1000 := by
    intro t ht
    unfold F_spec_l09Text_j1
    rw [ix_get ha, Option.bind_some, hu, Option.bind_some, need_true (by omega), Option.bind_some, bif_dec, w64_succ hi]
    split
    ·rw [Option.bind_some, hd, Option.bind_some, need_true (by rw [List.length_append]; omega)]
     exact hK _ ⟨rfl, by dsimp only; rw [List.length_append, List.length_append]; omega⟩
    ·exact hK _ ⟨rfl, by dsimp only; rw [List.length_append]; omega⟩
   simp only [F_spec_l09Text_l0, int_lt hlt, bif_t]
   rw [bif_dec]
   split
   ·rw [need_true (by simp only [List.length_singleton]; omega)]
    exact key _ (by rw [List.length_append, List.length_singleton]; omega)
   ·exact key _ (by omega)
  ·rintro ⟨t, _⟩ K ⟨rfl, h1⟩
   dsimp only at h1
   simp only [F_spec_l09Text_l0, int_lt_self, bif_f]
   exact ⟨_, rfl, by omega⟩
def kinds3 : List (List UInt8) := [[109, 101, 108, 111, 100, 121], [110, 111, 116, 101], [102, 97, 99, 101]]
def drawn (b : TBlock) : Prop := b.1 ∈ kinds3 ∧ b.2.1.length ≤ 100 ∧ b.2.2.length ≤ 2000
theorem drawn_j1 {N : Int} (hN : N ≤ 600000) {u v : TL00Src × List UInt8} (hu : u.2 ∈ kinds3) (hv : v.2.length ≤ 100) {c : List Int} {a z : Int} (h : Src N (c, a, z)) {t : List UInt8} (ht : t.length ≤ 2000) : ∃ s' b, F_spec_l29DrawOne_j1 u v c a z t = some (s', b) ∧ drawn b ∧ Src (N + 2) s' := by
 unfold F_spec_l29DrawOne_j1
 obtain ⟨s1, b1, e1, h1⟩ := one_ok (n := 24) (by omega) (by omega) h
 rw [e1, Option.bind_some]
 dsimp only
 cases b1
 ·exact ⟨_, _, rfl, ⟨hu, hv, ht⟩, h1.up (by omega)⟩
 ·rw [bif_t]
  obtain ⟨s2, x, e2, hx1, hx2, h2⟩ := pick_ok (n := 3) (by omega) (by omega) h1
  rw [e2, Option.bind_some]
  dsimp only
  rw [w64_id (by omega), need_true (by omega)]
  refine ⟨_, _, rfl, ⟨hu, hv, ?_⟩, h2.up (by omega)⟩
  dsimp only
  rw [bytesI_len, List.length_replicate]
  omega
theorem drawn_j0 {N : Int} (hN : N ≤ 500000) {u v : TL00Src × List UInt8} (hu : u.2 ∈ kinds3) (hv : v.2.length ≤ 100) {c : List Int} {a z : Int} (h : Src N (c, a, z)) {t : List UInt8} (ht : t.length ≤ 2000) : ∃ s' b, F_spec_l29DrawOne_j0 u v c a z t = some (s', b) ∧ drawn b ∧ Src (N + 23) s' := by
 unfold F_spec_l29DrawOne_j0
 rw [bif_dec]
 split
 ·obtain ⟨s1, b1, e1, h1⟩ := one_ok (n := 2) (by omega) (by omega) h
  rw [e1, Option.bind_some]
  dsimp only
  cases b1
  ·obtain ⟨s', b, e, hb, hs⟩ := drawn_j1 (by omega) hu hv (c := s1.1) (a := s1.2.1) (z := s1.2.2) h1 ht
   exact ⟨s', b, e, hb, hs.up (by omega)⟩
  ·rw [bif_t]
   obtain ⟨s2, m, e2, hl, hm, h2⟩ := melDraw_ok (by omega) h1
   obtain ⟨t2, e3, ht2⟩ := melText_ok hl hm
   rw [e2, Option.bind_some]
   dsimp only
   rw [e3, Option.bind_some]
   obtain ⟨s', b, e, hb, hs⟩ := drawn_j1 (by omega) hu hv (c := s2.1) (a := s2.2.1) (z := s2.2.2) h2 (t := t2) (by omega)
   exact ⟨s', b, e, hb, hs.up (by omega)⟩
 ·obtain ⟨s', b, e, hb, hs⟩ := drawn_j1 (by omega) hu hv h ht
  exact ⟨s', b, e, hb, hs.up (by omega)⟩
theorem drawOne_ok {N : Int} (hN : N ≤ 400000) {s : TL00Src} (h : Src N s) : ∃ s' b, F_spec_l29DrawOne s = some (s', b) ∧ drawn b ∧ Src (N + 40) s' := by
 unfold F_spec_l29DrawOne
 obtain ⟨s1, k, e1, hk, h1⟩ := text_ok (L := kinds3) (by omega) (by decide) h
 have e1 : F_spec_l00Src_text s ([[109, 101, 108, 111, 100, 121], [110, 111, 116, 101], [102, 97, 99, 101]] : List (List UInt8)) = some (s1, k) := e1
 rw [e1, Option.bind_some]
 dsimp only
 obtain ⟨s2, n, e2, hn, h2⟩ := text_ok (L := [[97], [98], [99], [100]]) (by omega) (by decide) h1
 rw [e2, Option.bind_some]
 dsimp only
 obtain ⟨s3, t, e3, ht, h3⟩ := text_ok (L := ([[], [120], [97, 32, 98, 32, 99], [49, 50, 32, 51, 52], [111, 97, 107, 47, 52, 48]] : List (List UInt8))) (by omega) (by decide) h2
 rw [e3, Option.bind_some]
 dsimp only
 have hn2 : n.length ≤ 100 := by
  simp at hn; rcases hn with rfl | rfl | rfl | rfl <;> decide
 have ht2 : t.length ≤ 6 := by
  simp at ht; rcases ht with rfl | rfl | rfl | rfl | rfl <;> decide
 obtain ⟨s4, b4, e4, h4⟩ := one_ok (n := 4) (by omega) (by omega) h3
 rw [e4, Option.bind_some]
 dsimp only
 cases b4
 ·rw [bif_f]
  obtain ⟨s', b, e, hb, hs⟩ := drawn_j0 (by omega) (u := (s1, k)) (v := (s2, n)) hk hn2 (c := s4.1) (a := s4.2.1) (z := s4.2.2) h4 (t := t) (by omega)
  exact ⟨s', b, e, hb, hs.up (by omega)⟩
 ·rw [bif_t]
  obtain ⟨s5, w, e5, hw, h5⟩ := word_ok (n := 9) (by omega) (by omega) h4
  rw [e5, Option.bind_some]
  dsimp only
  rw [need_true (by omega)]
  obtain ⟨s', b, e, hb, hs⟩ := drawn_j0 (by omega) (u := (s1, k)) (v := (s2, n)) hk hn2 (c := s5.1) (a := s5.2.1) (z := s5.2.2) h5 (t := t ++ w) (by rw [List.length_append]; omega)
  exact ⟨s', b, e, hb, hs.up (by omega)⟩
end Go.Ab
set_option linter.unusedVariables false
set_option linter.unusedSimpArgs false
namespace Go.Ab
open Go.RowKit
theorem adj_of {α : Type} {one : α → Bool} {bef : α → α → Bool} : ∀ {A : List α} {p : Option α}, (∀ x ∈ A, one x = true) → A.Pairwise (fun x y => bef x y = true) → (∀ q, p = some q → ∀ x ∈ A, bef q x = true) → adj one bef p A = true
 | [], p, _, _, _ => by cases p <;> rfl
 | a :: A, p, h1, h2, h3 => by
  rw [List.pairwise_cons] at h2
  have ih := adj_of (A := A) (p := some a) (fun x hx => h1 x (by simp [hx])) h2.2 (fun q hq x hx => by cases hq; exact h2.1 x hx)
  have ha := h1 a (by simp)
  cases p with
  | none => simp [adj, ha, ih]
  | some q => simp [adj, ha, ih, h3 q rfl a (by simp)]
theorem blksOk_of {A : List TBlock} (hs : Srt A) (hl : A.length ≤ 32) : blksOk A = true := by
 unfold blksOk
 rw [adj_of hs.ok (srt_pw.1 hs.srt) (fun q hq => by cases hq), decide_eq_true (by omega)]
 rfl
def okB (b : TBlock) : Prop := b.1 ∈ kinds3 ∧ OkBlock b
structure GoodB (n : Nat) (A : List TBlock) : Prop where
 srt : Srt A
 len : A.length ≤ n
 ok : ∀ x ∈ A, okB x
theorem drawn_ok {b : TBlock} (h : drawn b) : okB b := by
 obtain ⟨h1, h2, h3⟩ := h
 refine ⟨h1, ?_, ?_, ?_⟩
 ·unfold OkS
  simp [kinds3] at h1
  rcases h1 with h1 | h1 | h1 <;> rw [h1] <;> decide
 ·unfold OkS; omega
 ·unfold OkS; omega
theorem GoodB.okl {n : Nat} {A : List TBlock} (h : GoodB n A) (hn : n ≤ 1000) : OkBlocks A := ⟨by have := h.len; omega, fun x hx => (h.ok x hx).2⟩
theorem insB_mem {A : List TBlock} {t x : TBlock} (h : x ∈ insB A t) : x = t ∨ x ∈ A := by
 unfold insB at h
 rcases List.mem_append.1 h with h | h
 ·exact .inr (List.mem_of_mem_take h)
 ·rcases List.mem_cons.1 h with h | h
  ·exact .inl h
  ·exact .inr (List.mem_of_mem_drop h)
theorem put_eq {A : List TBlock} (hA : GoodB 1000 A) (hl : A.length ≤ 31) {b : TBlock} (hb : OkBlock b) : F_spec_PutBlock A b = some (if blkOk b = true then (insB A b, 0) else ([], 1)) := by
 have hn := insB_len A b
 unfold F_spec_PutBlock
 rw [l29Ok_eq (hA.okl (by omega)), blksOk_of hA.srt (by omega), Option.bind_some, Bool.not_true, bif_f, l29One_eq b hb.1 hb.2.1 hb.2.2, Option.bind_some]
 cases hk : blkOk b
 ·rfl
 ·rw [Bool.not_true, bif_f, l29Put_eq hA.srt (by omega), Option.bind_some, bif_dec, if_neg (by omega)]
  rfl
theorem iput_eq {A : List TBlock} (hA : GoodB 1000 A) (hl : A.length ≤ 31) {b : TBlock} (hb : OkBlock b) (hk : blkOk b = true) : F_impl_PutBlock A b = some (insB A b, 0) := by
 have hn := insB_len A b
 unfold F_impl_PutBlock
 rw [ValidBlocks_eq (hA.okl (by omega)), blksOk_of hA.srt (by omega), Option.bind_some, Bool.not_true, bif_f, ValidBlock_eq b hb.1 hb.2.1, Option.bind_some, hk, Bool.not_true, bif_f, withBlock_eq hA.srt (by omega), Option.bind_some, bif_dec, if_neg (by omega)]
theorem GoodB.ins {n : Nat} {A : List TBlock} (h : GoodB n A) {b : TBlock} (hb : okB b) (hk : blkOk b = true) : GoodB (n + 1) (insB A b) :=
 ⟨insB_srt h.srt hk, by have := insB_len A b; have := h.len; omega, fun x hx => by
  rcases insB_mem hx with rfl | hx
  ·exact hb
  ·exact h.ok x hx⟩
theorem GoodB.up {n m : Nat} {A : List TBlock} (h : GoodB n A) (hm : n ≤ m) : GoodB m A := ⟨h.srt, Nat.le_trans h.len hm, h.ok⟩
theorem srt_nil : Srt [] := ⟨by simp, by simp⟩
theorem blocks_ok {c : List Int} (hc : ∀ b ∈ c, 0 ≤ b ∧ b ≤ 255) : ∃ A, F_spec_R8Blocks c = some A ∧ GoodB 5 A := by
 unfold F_spec_R8Blocks F_spec_l29Draw
 have h0 : Src 0 (c, 0, 0) := ⟨hc, Int.le_refl _, Int.le_refl _⟩
 obtain ⟨s1, x, e1, hx1, hx2, h1⟩ := pick_ok (n := 6) (by omega) (by omega) h0
 rw [e1, Option.bind_some]
 obtain ⟨r, hr, hq⟩ := loop_mu (body := F_spec_l29Draw_l0) (s0 := (x, s1.1, s1.2.1, s1.2.2, []))
  (Q := fun r : TL00Src × List TBlock => GoodB 5 r.2)
  (fun s => (0 ≤ s.1 ∧ s.1 ≤ x) ∧ Src (1 + 40 * (x - s.1)) (s.2.1, s.2.2.1, s.2.2.2.1) ∧ GoodB (x - s.1).toNat s.2.2.2.2) (fun s => s.1.toNat)
  ⟨⟨hx1, Int.le_refl _⟩, h1.up (by dsimp only; omega), ⟨srt_nil, by simp, by simp⟩⟩ (lt_lim (by dsimp only; omega))
  (by
   rintro ⟨k, c, a, z, A⟩ K ⟨q1, q2, q3⟩ hK
   dsimp only at q1 q2 q3
   simp only [F_spec_l29Draw_l0]
   rw [bif_dec]
   split
   ·rename_i hk
    obtain ⟨s2, b, e2, hb, h2⟩ := drawOne_ok (by omega) q2
    have hb := drawn_ok hb
    have hl := q3.len
    rw [e2, Option.bind_some]
    dsimp only
    rw [put_eq (q3.up (by omega)) (by omega) hb.2, Option.bind_some, w64_id (by omega)]
    cases hk2 : blkOk b
    ·rw [if_neg (by decide)]
     dsimp only
     rw [bif_dec, if_neg (by decide)]
     exact hK _ ⟨⟨by dsimp only; omega, by dsimp only; omega⟩, h2.up (by dsimp only; omega), q3.up (by dsimp only; omega)⟩ (by dsimp only; omega)
    ·rw [if_pos rfl]
     dsimp only
     rw [bif_dec, if_pos rfl]
     exact hK _ ⟨⟨by dsimp only; omega, by dsimp only; omega⟩, h2.up (by dsimp only; omega), (q3.ins hb hk2).up (by dsimp only; omega)⟩ (by dsimp only; omega)
   ·exact ⟨_, rfl, q3.up (by omega)⟩)
 refine ⟨r.2, ?_, hq⟩
 rw [hr, Option.bind_some]
theorem named_eq {A : List TBlock} (hs : Srt A) (hl : A.length ≤ 32) (ho : OkBlocks A) {x : TBlock} (hx : x ∈ A) : F_impl_BlockNamed A x.1 x.2.1 = some (x.2.2, 0) := by
 obtain ⟨i, hi⟩ := List.mem_iff_getElem?.1 hx
 have hk : sameKey x (x.1, x.2.1, []) := ⟨rfl, rfl⟩
 obtain ⟨e, hh⟩ := has_at hs hi hk
 unfold F_impl_BlockNamed
 rw [ValidBlocks_eq ho, blksOk_of hs hl, Option.bind_some, Bool.not_true, bif_f, search_eq hs (by omega), Option.bind_some]
 dsimp only
 rw [hh, Bool.not_true, bif_f, ← e, ix_get hi, Option.bind_some]
def newB : TBlock := ([110, 101, 119], [120], [116])
theorem new_ok : blkOk newB = true := by decide
theorem new_okB : OkBlock newB := ⟨by unfold OkS; decide, by unfold OkS; decide, by unfold OkS; decide⟩
theorem kind_ne {b : TBlock} (h : okB b) : b.1 ≠ [110, 101, 119] := by
 intro e
 have := h.1
 rw [e] at this
 revert this
 decide
theorem has_new {n : Nat} {A : List TBlock} (h : GoodB n A) : hasB A newB = false := by
 cases hh : hasB A newB
 ·rfl
 ·obtain ⟨x, hx, hk⟩ := has_some hh
  exact absurd hk.1 (kind_ne (h.ok x (get_mem hx)))
theorem ins_new {n : Nat} {A : List TBlock} (h : GoodB n A) : insB A newB = A.take (cutB A newB) ++ newB :: A.drop (cutB A newB) := by
 unfold insB afterB
 rw [has_new h]; rfl
theorem filter_new {n : Nat} {A : List TBlock} (h : GoodB n A) : (insB A newB).filter (fun b => decide (b.1 = [110, 101, 119])) = [newB] := by
 have key : ∀ L : List TBlock, (∀ x ∈ L, x ∈ A) → L.filter (fun b => decide (b.1 = [110, 101, 119])) = [] := by
  intro L hL
  rw [List.filter_eq_nil_iff]
  intro x hx
  have := kind_ne (h.ok x (hL x hx))
  simpa using this
 rw [ins_new h, List.filter_append, List.filter_cons, key _ (fun x hx => List.mem_of_mem_take hx), key _ (fun x hx => List.mem_of_mem_drop hx)]
 rfl
theorem cloneB {A : List TBlock} (h : A.length ≤ 1000) : F_slices_Clone_SBlock_Block A = some A := CloneB_eq (room48 (by omega))
theorem deleteB {A : List TBlock} {i j : Nat} (hij : i ≤ j) (hj : j ≤ A.length) : F_slices_Delete_SBlock_Block A (i : Int) (j : Int) = some (A.take i ++ A.drop j) := by
 unfold F_slices_Delete_SBlock_Block
 rw [need_true (by omega), bif_dec]
 split
 ·rename_i h
  have : i = j := by omega
  subst this
  rw [List.take_append_drop]
 ·have h1 := inL_len (A := A) (l := 0) (h := (i : Int)) (lo := (j : Int)) (hi := (A.length : Int)) (by omega) (by omega) (by omega)
  rw [need_true (by omega), need_true (by omega), need_true (by omega), need_true (by rw [h1]; omega), del_sub hij hj]
theorem drop_new {n : Nat} (hn : n ≤ 31) {A : List TBlock} (h : GoodB n A) (hs : Srt (insB A newB)) (ho : OkBlocks (insB A newB)) (hl : (insB A newB).length ≤ 32) : F_impl_DropBlock (insB A newB) [110, 101, 119] [120] = some (A, 0) := by
 have hc := cutB_le A newB
 have hlen := h.len
 have htl : (A.take (cutB A newB)).length = cutB A newB := by rw [List.length_take]; omega
 have hx : (insB A newB)[cutB A newB]? = some newB := by
  rw [ins_new h, List.getElem?_append_right (by omega), htl, Nat.sub_self]; rfl
 have hk : sameKey newB ([110, 101, 119], [120], []) := ⟨rfl, rfl⟩
 obtain ⟨e, hh⟩ := has_at hs hx hk
 unfold F_impl_DropBlock
 rw [ValidBlocks_eq ho, blksOk_of hs hl, Option.bind_some, Bool.not_true, bif_f, search_eq hs (by omega), Option.bind_some]
 dsimp only
 rw [hh, Bool.not_true, bif_f, cloneB (by omega), Option.bind_some, ← e, w64_succ (by omega), deleteB (by omega) (by have := get_lt hx; omega), Option.bind_some]
 congr 2
 rw [ins_new h, List.take_append_of_le_length (by omega), List.take_of_length_le (by omega), List.drop_append, htl, List.drop_of_length_le (by omega), show cutB A newB + 1 - cutB A newB = 1 by omega]
 simp
theorem same_self {A : List TBlock} (hl : A.length ≤ 1000) : F_spec_SameBlocks A A = some true := by
 unfold F_spec_SameBlocks F_spec_l29Same
 rw [decide_eq_false (by simp), bif_f, loop_all (L := A) (fun _ => true) (by omega)]
 ·simp
 ·intro i k a ha hi
  simp only [F_spec_l29Same_l0, int_lt (get_lt ha), bif_t, ix_get ha, Option.bind_some, decide_true, Bool.and_self, Bool.not_true, bif_f, w64_succ hi]
 ·intro k
  simp only [F_spec_l29Same_l0, int_lt_self, bif_f]
def mrgB (A B : List TBlock) : List TBlock := B.foldl insB A
theorem mrgB_good : ∀ {B : List TBlock} {n : Nat} {A : List TBlock}, GoodB n A → (∀ x ∈ B, okB x ∧ blkOk x = true) → GoodB (n + B.length) (mrgB A B)
 | [], n, A, h, _ => h
 | b :: B, n, A, h, hB => by
  have := mrgB_good (B := B) (h.ins (hB b (by simp)).1 (hB b (by simp)).2) (fun x hx => hB x (by simp [hx]))
  exact this.up (by rw [List.length_cons]; omega)
theorem mrgB_len : ∀ (B A : List TBlock), (mrgB A B).length ≤ A.length + B.length
 | [], A => by simp [mrgB]
 | b :: B, A => by
  have h1 := mrgB_len B (insB A b)
  have h2 := insB_len A b
  show (mrgB (insB A b) B).length ≤ _
  rw [List.length_cons]
  omega
theorem insB_has (A : List TBlock) (t : TBlock) : t ∈ insB A t := by
 unfold insB; simp
theorem insB_keep {A : List TBlock} {t x : TBlock} (hx : x ∈ A) (hn : ¬ sameKey x t) : x ∈ insB A t := by
 obtain ⟨i, hi⟩ := List.mem_iff_getElem?.1 hx
 unfold insB
 rw [List.mem_append, List.mem_cons]
 have hd := after_le A t
 rcases Nat.lt_or_ge i (cutB A t) with h | h
 ·left
  exact List.mem_iff_getElem?.2 ⟨i, by rw [List.getElem?_take, if_pos h]; exact hi⟩
 ·right; right
  refine List.mem_iff_getElem?.2 ⟨i - afterB A t, ?_⟩
  have h2 : afterB A t ≤ i := by
   unfold afterB
   split
   ·rename_i hh
    obtain ⟨y, hy, hk⟩ := has_some hh
    rcases Nat.eq_or_lt_of_le h with e | e
    ·rw [← e, hy] at hi
     cases hi
     exact absurd hk hn
    ·omega
   ·exact h
  rw [List.getElem?_drop, show afterB A t + (i - afterB A t) = i by omega]
  exact hi
theorem mrgB_keep : ∀ {B : List TBlock} {A : List TBlock} {x : TBlock}, x ∈ A → (∀ y ∈ B, ¬ sameKey x y) → x ∈ mrgB A B
 | [], A, x, h, _ => h
 | b :: B, A, x, h, hB => mrgB_keep (B := B) (insB_keep h (hB b (by simp))) (fun y hy => hB y (by simp [hy]))
theorem mrgB_has : ∀ {B : List TBlock} {A : List TBlock}, B.Pairwise (fun x y => blkBef x y = true) → ∀ x ∈ B, x ∈ mrgB A B
 | b :: B, A, hp, x, hx => by
  rw [List.pairwise_cons] at hp
  rcases List.mem_cons.1 hx with rfl | hx
  ·refine mrgB_keep (B := B) (insB_has A x) (fun y hy hk => ?_)
   have := hp.1 y hy
   rw [← bef_key hk, bef_irr] at this
   cases this
  ·exact mrgB_has (B := B) hp.2 x hx
theorem merge_eq {A B : List TBlock} (hA : GoodB 5 A) (hB : GoodB 5 B) : F_impl_MergeBlocks A B = some (mrgB A B, 0) := by
 have la := hA.len
 have lb := hB.len
 unfold F_impl_MergeBlocks
 rw [ValidBlocks_eq (hA.okl (by omega)), blksOk_of hA.srt (by omega), Option.bind_some, Bool.not_true, bif_f, ValidBlocks_eq (hB.okl (by omega)), blksOk_of hB.srt (by omega), Option.bind_some, Bool.not_true, bif_f, cloneB (by omega), Option.bind_some]
 obtain ⟨r, e, hr⟩ := loop_ex (body := F_impl_MergeBlocks_l0 B) (s0 := (0, A)) (L := B) (Q := fun r => r = (mrgB A B, 0))
  (fun i s => s.1 = (i : Int) ∧ s.2 = mrgB A (B.take i) ∧ GoodB (5 + i) s.2) (by omega) ⟨rfl, rfl, hA⟩
  (by
   rintro i ⟨_, L⟩ K t ht hi ⟨rfl, h1, h2⟩ hK
   dsimp only at h1 h2
   have hlt := get_lt ht
   have := h2.len
   simp only [F_impl_MergeBlocks_l0, int_lt hlt, bif_t, ix_get ht, Option.bind_some, withBlock_eq h2.srt (show L.length ≤ 1000 by omega), w64_succ hi]
   refine hK _ ⟨rfl, ?_, (h2.ins (hB.ok t (get_mem ht)) (hB.srt.ok t (get_mem ht))).up (by omega)⟩
   dsimp only
   rw [h1]
   unfold mrgB
   rw [take_succ ht, List.foldl_append]; rfl)
  (by
   rintro ⟨_, L⟩ K ⟨rfl, h1, h2⟩
   dsimp only at h1 h2
   have := h2.len
   rw [take_all (Nat.le_refl _)] at h1
   simp only [F_impl_MergeBlocks_l0, int_lt_self, bif_f]
   rw [bif_dec, if_neg (by omega), h1]
   exact ⟨_, rfl, rfl⟩)
 rw [e, hr]
theorem kindNew_eq {A : List TBlock} (hs : Srt A) (hl : A.length ≤ 32) (ho : OkBlocks A) : F_impl_BlocksOfKind A [110, 101, 119] = some ((A.filter fun b => decide (b.1 = [110, 101, 119])).map (fun b => b.2.1), 0) := by
 unfold F_impl_BlocksOfKind
 rw [ValidBlocks_eq ho, blksOk_of hs hl, Option.bind_some, Bool.not_true, bif_f]
 obtain ⟨r, e, hr⟩ := loop_ex (body := F_impl_BlocksOfKind_l0 A [110, 101, 119]) (s0 := (0, [])) (L := A) (Q := fun r => r = ((A.filter fun b => decide (b.1 = [110, 101, 119])).map (fun b => b.2.1), (0 : Int)))
  (fun i s => s.1 = (i : Int) ∧ s.2 = ((A.take i).filter fun b => decide (b.1 = [110, 101, 119])).map (fun b => b.2.1) ∧ s.2.length ≤ i) (by omega) ⟨rfl, rfl, Nat.le_refl _⟩
  (by
   rintro i ⟨_, L⟩ K t ht hi ⟨rfl, h1, h2⟩ hK
   dsimp only at h1 h2
   have hlt := get_lt ht
   simp only [F_impl_BlocksOfKind_l0, int_lt hlt, bif_t, ix_get ht, Option.bind_some, w64_succ hi]
   rw [bif_dec]
   split
   ·rename_i hk
    rw [need_true (room_small (by simp only [List.length_singleton]; omega) (by omega))]
    refine hK _ ⟨rfl, ?_, by dsimp only; rw [List.length_append, List.length_singleton]; omega⟩
    dsimp only
    rw [take_succ ht, List.filter_append, List.map_append, ← h1]
    simp [hk]
   ·rename_i hk
    refine hK _ ⟨rfl, ?_, by dsimp only; omega⟩
    dsimp only
    rw [take_succ ht, List.filter_append, List.map_append, ← h1]
    simp [hk])
  (by
   rintro ⟨_, L⟩ K ⟨rfl, h1, h2⟩
   dsimp only at h1 h2
   rw [take_all (Nat.le_refl _)] at h1
   simp only [F_impl_BlocksOfKind_l0, int_lt_self, bif_f]
   rw [h1]
   exact ⟨_, rfl, rfl⟩)
 rw [e, hr]
set_option maxHeartbeats 2000000 in
theorem law_FnBlocks (c d : List Int) (oc : (OkL OkU) c) (od : (OkL OkU) d) : F_laws_FnBlocks c d = some true := by
 unfold F_laws_FnBlocks
 obtain ⟨A, eA, hA⟩ := blocks_ok oc.2
 obtain ⟨B, eB, hB⟩ := blocks_ok od.2
 have la := hA.len
 have lb := hB.len
 have hn := insB_len A newB
 have hA0 : GoodB 1000 A := hA.up (by omega)
 have hsN : Srt (insB A newB) := insB_srt hA.srt new_ok
 have hoN : OkBlocks (insB A newB) := ⟨by omega, fun x hx => by
  rcases insB_mem hx with rfl | hx
  ·exact new_okB
  ·exact (hA.ok x hx).2⟩
 have hM := mrgB_good hA (B := B) (fun x hx => ⟨hB.ok x hx, hB.srt.ok x hx⟩)
 have lM := hM.len
 have e1 : F_impl_BlockNamed (insB A newB) [110, 101, 119] [120] = some ([116], 0) := named_eq hsN (by omega) hoN (insB_has A newB)
 have e2 : F_impl_PutBlock A ([110, 101, 119], [120], [116]) = some (insB A newB, 0) := iput_eq hA0 (by omega) new_okB new_ok
 obtain ⟨b, hb⟩ : ∃ b, F_laws_r8Long c d = some b := by
  unfold F_laws_r8Long
  rw [bif_dec]
  split <;> exact ⟨_, rfl⟩
 rw [hb, Option.bind_some]
 cases b
 ·rw [bif_f]
  rw [eA, Option.bind_some, eB, Option.bind_some, e2, Option.bind_some]
  dsimp only
  rw [e1, Option.bind_some, drop_new (by omega) hA hsN hoN (by omega), Option.bind_some, merge_eq hA hB, Option.bind_some, kindNew_eq hsN (by omega) hoN, filter_new hA, Option.bind_some]
  dsimp only
  rw [same_self (by omega), Option.bind_some]
  unfold F_spec_ValidBlocks
  rw [l29Ok_eq (hM.okl (by omega)), blksOk_of hM.srt (by omega), Option.bind_some, Option.bind_some]
  simp only [ne_eq, not_true_eq_false, decide_false, bif_f, Bool.not_true, List.map_cons, List.map_nil, List.length_singleton, Int.natCast_one]
  rw [loop_all (L := B) (fun _ => true) (by omega)]
  ·simp
  ·intro i k x hx hi
   have hm := mrgB_has (A := A) (srt_pw.1 hB.srt.srt) x (get_mem hx)
   simp only [F_laws_FnBlocks_l0, int_lt (get_lt hx), bif_t, ix_get hx, Option.bind_some, named_eq hM.srt (by omega) (hM.okl (by omega)) hm, ne_eq, not_true_eq_false, decide_false, bif_f, w64_succ hi]
  ·intro k
   have := mrgB_len B A
   simp only [F_laws_FnBlocks_l0, int_lt_self, bif_f]
   rw [w64_id (by omega), decide_eq_true (by omega)]
 ·rw [bif_t]
end Go.Ab
