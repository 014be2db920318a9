import Derived.Test.YtfldoapdidpgdaaMP
import Derived.Sort.Row
import Derived.Sort.Grow
import Derived.Sort.EncStr
set_option linter.unusedVariables false
set_option linter.unusedSimpArgs false
namespace Go.Ab
open Go.RowKit Go.Sort Go.Proofs
structure OneEnc {α : Type} (e : α → V) (enc : α → Value) : Prop where
 one : ∀ a, V.one (e a) = true
 inv : ∀ {w : World} {D : BSet} {o : Bool} {a : α} {x : Value} {S : BSet}, Rep w D o (e a) x S → x = enc a
 rep : ∀ {w : World} {D : BSet} {o : Bool} {a : α}, Rep w D o (e a) (enc a) Emp
section
variable {α : Type} {e : α → V} {enc : α → Value}
theorem OneEnc.uni (h1 : OneEnc e enc) (A : List α) : Uni 1 (A.map e) := by
 intro x hx
 obtain ⟨a, _, rfl⟩ := List.mem_map.1 hx
 rw [V.cells_one (h1.one a)]
 exact ⟨rfl, fun c hc => by rw [List.mem_singleton.1 hc]; exact h1.one a⟩
end
end Go.Ab
