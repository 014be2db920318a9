import Derived.Test.YtfldoapdidpgdaaA0
namespace Go.Ab
def TabQ (w : World) : Prop := True
end Go.Ab
