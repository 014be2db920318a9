/- PutBlock: the program's and the reference's (own text). -/
import Derived.Test.YtbmcnmmaplagbaaPIns
set_option linter.unusedVariables false
set_option linter.unusedSimpArgs false
namespace Go.Ab
open Go.RowKit
theorem ct_blocks {A : List TBlock} (h : A.length ≤ 1000) : (SmL CtBlock) A := ⟨by omega, fun _ _ => ⟨trivial, trivial, trivial⟩⟩
theorem core_PutBlock (A : List TBlock) (b : TBlock) (oA : (OkL OkBlock) A) (ob : OkBlock b) (sA : (SmL SmBlock) A) (sb : SmBlock b) :
    ∃ w, F_spec_PutBlock A b = some w ∧ F_impl_PutBlock A b = some w ∧ (SmL CtBlock) w.1 := by
  obtain ⟨o0, o1, o2⟩ := ob
  unfold F_spec_PutBlock F_impl_PutBlock
  rw [l29Ok_eq oA, ValidBlocks_eq oA, l29One_eq b o0 o1 o2, ValidBlock_eq b o0 o1]
  simp only [Option.bind_some]
  cases h : blksOk A
  · exact ⟨_, rfl, rfl, ct_blocks (by simp)⟩
  · have hs := srt_ok h
    have hl := (blkOk_len h).1
    rw [Bool.not_true, bif_f, bif_f]
    cases hb : blkOk b
    · exact ⟨_, rfl, rfl, ct_blocks (by simp)⟩
    · rw [Bool.not_true, bif_f, bif_f, l29Put_eq hs (by omega), withBlock_eq hs (by omega)]
      have hn := insB_len A b
      simp only [Option.bind_some, bif_dec]
      split
      · exact ⟨_, rfl, rfl, ct_blocks (by simp)⟩
      · exact ⟨_, rfl, rfl, ct_blocks (by dsimp only; omega)⟩
end Go.Ab
