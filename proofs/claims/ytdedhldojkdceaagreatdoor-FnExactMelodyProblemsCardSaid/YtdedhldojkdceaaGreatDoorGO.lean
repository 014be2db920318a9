import Derived.Test.YtdedhldojkdceaaGreatDoorMP
import Derived.Sort.Row
import Derived.Sort.Grow
import Derived.Sort.EncStr
set_option linter.unusedVariables false
set_option linter.unusedSimpArgs false
namespace Go.Ab
open Go.RowKit Go.Sort Go.Proofs
structure OneEnc {α : Type} (e : α → V) (enc : α → Value) : Prop where
 one : ∀ a, V.one (e a) = true
 inv : ∀ {w : World} {D : BSet} {o : Bool} {a : α} {x : Value} {S : BSet}, Rep w D o (e a) x S → x = enc a
 rep : ∀ {w : World} {D : BSet} {o : Bool} {a : α}, Rep w D o (e a) (enc a) Emp
section
variable {α : Type} {e : α → V} {enc : α → Value}
end
end Go.Ab
