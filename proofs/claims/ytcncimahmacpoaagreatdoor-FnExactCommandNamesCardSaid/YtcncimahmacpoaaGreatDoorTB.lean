/- What the seat's tables hold (own framework). -/
import Derived.Test.YtcncimahmacpoaaGreatDoorA0
import Derived.Lib.ItoaNum
namespace Go.Ab
structure TabQ (w : World) : Prop where
  mx : ∃ m, w.cell? ⟨0, 0, none⟩ = some (.int .i64 m)
  pow : ∃ ty fz, w.heap[3]? = some (.cells (Go.Lib.pow10Tab.map fun z => Value.int .u64 z).toArray ty fz)
end Go.Ab
