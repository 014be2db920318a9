import Derived.Test.YtnideigmfhhedaaGreatDoorB3
set_option linter.unusedVariables false
set_option linter.unusedSimpArgs false
namespace Go.Ab
open Go.RowKit
section
variable {s : St} {x : X} {sz : Nat} {α : Type} {e : α → V} {A B : List α}
theorem ev_len_p {r : Nat} {own : Bool} {lo hi : Int} (hx : s.get x = .sl r lo.toNat (hi.toNat - lo.toNat)) (hr : s.objs r = some (.row own sz (A.map e))) (g : 0 ≤ lo ∧ lo ≤ hi ∧ hi ≤ B.length) : ev s (.len x) = some (AI (hi - lo)) := by
 simp only [ev, hx, hr, Option.some.injEq]
 show AI _ = AI _
 congr 1
 omega
end
section
variable {n id : Nat} {l : List (Nat × AV)} {L : List (Nat × Root)} {α : Type} {e : α → V} {A B C : List α}
end
end Go.Ab
