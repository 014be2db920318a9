/- DropBlock: the program's and the reference's (own text). -/
import Derived.Test.YtbmcnmmaplagbaaPSrt
import Derived.Test.YtbmcnmmaplagbaaPDel
set_option linter.unusedVariables false
set_option linter.unusedSimpArgs false
namespace Go.Ab
open Go.RowKit
theorem CloneB_eq {A : List TBlock} (h : room A.length 48) : F_slices_Clone_SBlock_Block A = some A := by
  unfold F_slices_Clone_SBlock_Block
  have e : F_slices_Clone_SBlock_Block_j0 A = some A := by unfold F_slices_Clone_SBlock_Block_j0; rw [need_true h]
  rw [e, bif_dec]
  split
  · rename_i h0
    have : A = [] := List.eq_nil_of_length_eq_zero (by omega)
    subst this
    exact both_eq rfl
  · rfl
theorem room48 {n : Nat} (h : n ≤ 100000) : room n 48 := ⟨by omega, by omega⟩
theorem DeleteB_eq {A : List TBlock} {i j : Nat} (hij : i ≤ j) (hj : j ≤ A.length) : F_slices_Delete_SBlock_Block A (i : Int) (j : Int) = some (A.take i ++ A.drop j) := by
  unfold F_slices_Delete_SBlock_Block
  rw [need_true (by omega), bif_dec]
  split
  · rename_i h
    have : i = j := by omega
    subst this
    rw [List.take_append_drop]
  · have h1 := inL_len (A := A) (l := 0) (h := (i : Int)) (lo := (j : Int)) (hi := (A.length : Int)) (by omega) (by omega) (by omega)
    rw [need_true (by omega), need_true (by omega), need_true (by omega), need_true (by rw [h1]; omega), del_sub hij hj]
theorem core_DropBlock (A : List TBlock) (a b : List UInt8) (oA : (OkL OkBlock) A) (oa : OkS a) (ob : OkS b) (sA : (SmL SmBlock) A) (sa : SmS a) (sb : SmS b) :
    ∃ w, F_spec_DropBlock A a b = some w ∧ F_impl_DropBlock A a b = some w ∧ (SmL CtBlock) w.1 := by
  unfold F_spec_DropBlock F_impl_DropBlock
  rw [l29Ok_eq oA, ValidBlocks_eq oA]
  simp only [Option.bind_some]
  cases h : blksOk A
  · exact ⟨_, rfl, rfl, by simp [SmL]⟩
  · have hs := srt_ok h
    have hl := (blkOk_len h).1
    rw [Bool.not_true, bif_f, bif_f, l29Find_eq hs (by omega) a b [], search_eq hs (by omega)]
    simp only [Option.bind_some]
    cases hh : hasB A (a, b, [])
    · refine ⟨([], 3), ?_, rfl, by simp [SmL]⟩
      unfold atB
      rw [hh]; rfl
    · obtain ⟨x, hx, hk⟩ := has_some hh
      have hc := get_lt hx
      obtain ⟨k, hk0⟩ : ∃ k, cutB A (a, b, []) = k := ⟨_, rfl⟩
      rw [hk0] at hx hc
      have e1 : w64 ((k : Int) + 1) = ((k + 1 : Nat) : Int) := w64_succ (by omega)
      refine ⟨(A.take k ++ A.drop (k + 1), 0), ?_, ?_, ?_⟩
      · unfold atB
        rw [hh, if_pos rfl, hk0]
        have s1 : sub A 0 (k : Int) = A.take k := by simp [sub]
        have s2 : sub A ((k + 1 : Nat) : Int) (A.length : Int) = A.drop (k + 1) := by
          unfold sub
          rw [Int.toNat_natCast, Int.toNat_natCast, List.take_length]
        rw [decide_eq_false (show ¬ ((k : Int) < 0) by omega), bif_f, e1, need_true (by omega), s1, s2, need_true (room48 (by simp; omega)), need_true (by omega), need_true (room48 (by simp; omega))]
      · rw [Bool.not_true, bif_f, hk0, CloneB_eq (room48 (by omega)), Option.bind_some, e1, DeleteB_eq (by omega) (by omega)]
        rfl
      · refine ⟨?_, fun _ _ => ⟨trivial, trivial, trivial⟩⟩
        simp; omega
end Go.Ab
