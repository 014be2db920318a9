/- BlockNamed: the program's and the reference's (own text). -/
import Derived.Test.YtnldnipdcdhoeaaPSrt
set_option linter.unusedVariables false
set_option linter.unusedSimpArgs false
namespace Go.Ab
open Go.RowKit
theorem core_BlockNamed (A : List TBlock) (a b : List UInt8) (oA : (OkL OkBlock) A) (oa : OkS a) (ob : OkS b) (sA : (SmL SmBlock) A) (sa : SmS a) (sb : SmS b) :
    ∃ w, F_spec_BlockNamed A a b = some w ∧ F_impl_BlockNamed A a b = some w ∧ True := by
  unfold F_spec_BlockNamed F_impl_BlockNamed
  rw [l29Ok_eq oA, ValidBlocks_eq oA]
  simp only [Option.bind_some]
  cases h : blksOk A
  · exact ⟨_, rfl, rfl, trivial⟩
  · have hs := srt_ok h
    have hl := (blkOk_len h).1
    rw [Bool.not_true, bif_f, bif_f, l29Find_eq hs (by omega) a b [], search_eq hs (by omega)]
    simp only [Option.bind_some]
    cases hh : hasB A (a, b, [])
    · refine ⟨([], 3), ?_, rfl, trivial⟩
      unfold atB
      rw [hh]; rfl
    · obtain ⟨x, hx, hk⟩ := has_some hh
      refine ⟨(x.2.2, 0), ?_, ?_, trivial⟩
      · unfold atB
        rw [hh]
        simp only [if_true, ix_get hx, Option.bind_some]
        rw [decide_eq_false (by omega), bif_f]
      · simp only [Bool.not_true, bif_f, ix_get hx, Option.bind_some]
end Go.Ab
