/- Contracts of the library's functions at this program (printed by spec.py, own program; the structures lay the kit's shelf). -/
import Derived.Test.YtcncimahmacpoaaGreatDoorGT
import Derived.Test.YtcncimahmacpoaaGreatDoorProg
import Derived.KernelRfl
import Derived.WalkKit
import Derived.Test.YtcncimahmacpoaaGreatDoorCN0
set_option linter.unusedVariables false
set_option linter.unusedSimpArgs false
set_option maxHeartbeats 4000000
namespace Go.Ab
open Go.RowKit Go.Proofs Go.Sort
/- the names of the commands: CN0 -/
end Go.Ab
