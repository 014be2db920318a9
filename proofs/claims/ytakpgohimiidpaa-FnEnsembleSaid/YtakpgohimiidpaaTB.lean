import Derived.Test.YtakpgohimiidpaaA0
namespace Go.Ab
def TabQ (w : World) : Prop := True
end Go.Ab
