/- What the seat's tables hold: nothing is asked (own framework). -/
import Derived.Test.YtcoeihkaikmdpaaA0
namespace Go.Ab
def TabQ (w : World) : Prop := True
end Go.Ab
