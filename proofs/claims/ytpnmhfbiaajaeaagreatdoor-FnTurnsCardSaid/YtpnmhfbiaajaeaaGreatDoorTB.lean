import Derived.Test.YtpnmhfbiaajaeaaGreatDoorA0
import Derived.Lib.ItoaNum
namespace Go.Ab
structure TabQ (w : World) : Prop where
 mx : ∃ m, w.cell? ⟨0, 0, none⟩ = some (.int .i64 m)
 pow : ∃ ty fz, w.heap[3]? = some (.cells (Go.Lib.pow10Tab.map fun z => Value.int .u64 z).toArray ty fz)
 es : ∃ ev, w.cell? ⟨1, 0, none⟩ = some ev ∧ (ev = .nilIface ∨ ∃ te pe, ev = .iface te pe)
 er : ∃ ev, w.cell? ⟨2, 0, none⟩ = some ev ∧ (ev = .nilIface ∨ ∃ te pe, ev = .iface te pe)
end Go.Ab
