import Derived.Test.YtcklbccpfpnmbaaGreatDoorA0
import Derived.Lib.ItoaNum
namespace Go.Ab
structure TabQ (w : World) : Prop where
 pow : ∃ ty fz, w.heap[0]? = some (.cells (Go.Lib.pow10Tab.map fun z => Value.int .u64 z).toArray ty fz)
end Go.Ab
