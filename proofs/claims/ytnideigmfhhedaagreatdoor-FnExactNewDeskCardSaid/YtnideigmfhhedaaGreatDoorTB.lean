import Derived.Test.YtnideigmfhhedaaGreatDoorA0
import Derived.Lib.ItoaNum
namespace Go.Ab
structure TabQ (w : World) : Prop where
 mx : ∃ m, w.cell? ⟨0, 0, none⟩ = some (.int .i64 m)
end Go.Ab
