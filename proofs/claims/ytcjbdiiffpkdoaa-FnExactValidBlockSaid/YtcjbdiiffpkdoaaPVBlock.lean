/- ValidBlock: the law's core (own text). -/
import Derived.Test.YtcjbdiiffpkdoaaPBlock
set_option linter.unusedVariables false
set_option linter.unusedSimpArgs false
namespace Go.Ab
open Go.RowKit
theorem core_ValidBlock (b : TBlock) (o : OkBlock b) (s : SmBlock b) :
    ∃ w, F_spec_ValidBlock b = some w ∧ F_impl_ValidBlock b = some w ∧ True := by
  refine ⟨blkOk b, ?_, ValidBlock_eq b o.1 o.2.1, trivial⟩
  unfold F_spec_ValidBlock
  rw [l29One_eq b o.1 o.2.1 o.2.2]; rfl
end Go.Ab
