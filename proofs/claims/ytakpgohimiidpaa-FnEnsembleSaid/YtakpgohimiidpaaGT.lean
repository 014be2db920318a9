import Derived.Test.YtakpgohimiidpaaGO
import Derived.Lib.Join
import Derived.Deep.Draws
import Derived.Lib.Split
import Derived.Lib.CutLaws
import Derived.Lib.Strings
import Derived.Lib.Repeat
import Derived.Lib.ItoaNum
import Derived.Lib.ParseIntB
import Derived.Lib.SlTrimSet
set_option linter.unusedVariables false
set_option linter.unusedSimpArgs false
namespace Go.Ab
open Go.RowKit
open Go.Proofs (encStr)
open Go.Sort (grow)
section
variable {P : Program} {f : FuncId} {args : List V} {res : RV}
end
def bz (s : List UInt8) : ByteArray := ⟨s.toArray⟩
@[simp] theorem bz_data (s : List UInt8) : (bz s).data.toList = s := by simp [bz]
@[simp] theorem bz_size (s : List UInt8) : (bz s).size = s.length := by simp [bz, ByteArray.size]
@[simp] def res_split (r : List (List UInt8)) : RV := .r true 1 (r.map V.str)
@[simp] def res_splitN (r : List (List UInt8)) : RV := .r true 1 (r.map V.str)
section
variable {P : Program} {f : FuncId}
end
end Go.Ab
