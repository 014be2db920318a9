import Derived.Test.YtfldoapdidpgdaaGO
import Derived.Lib.SlicesCompact
import Derived.Shelf.SlicesE.Kit
import Derived.Shelf.SlicesE.Equal
set_option linter.unusedVariables false
set_option linter.unusedSimpArgs false
namespace Go.Ab
open Go.RowKit Go.Sort Go.Proofs
section
variable {α : Type} {e : α → V} {enc : α → Value}
variable [Inhabited α]
end
end Go.Ab
