import Derived.Test.YtpnmhfbiaajaeaaGreatDoorB3
set_option linter.unusedVariables false
set_option linter.unusedSimpArgs false
namespace Go.Ab
open Go.RowKit
section
variable {s : St} {x : X} {sz : Nat} {α : Type} {e : α → V} {A B : List α}
end
section
variable {n id : Nat} {l : List (Nat × AV)} {L : List (Nat × Root)} {α : Type} {e : α → V} {A B C : List α}
end
end Go.Ab
