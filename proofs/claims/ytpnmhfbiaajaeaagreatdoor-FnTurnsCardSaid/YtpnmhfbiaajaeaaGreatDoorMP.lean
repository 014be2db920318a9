import Derived.Test.YtpnmhfbiaajaeaaGreatDoorB5
set_option linter.unusedVariables false
set_option linter.unusedSimpArgs false
namespace Go.Ab
open Go.RowKit
structure KeyEnc {κ : Type} [DecidableEq κ] (kd : Nat) (ek : κ → Sc) : Prop where
 same : ∀ a b, sameSc kd (ek a) (ek b) = some (decide (a = b))
section
variable {κ β : Type} [DecidableEq κ]
@[simp] def eM (ek : κ → Sc) (ev : β → Sc) (p : κ × β) : Sc × Sc := (ek p.1, ev p.2)
@[simp] def eMV (ek : κ → Sc) (ev : β → Sc) (M : List (κ × β)) : V := .mp (M.map (eM ek ev))
variable {kd : Nat} {ek : κ → Sc} {ev' : β → Sc}
variable {s : St} {x k : X} {M : List (κ × β)} {kk : κ}
variable {l : List (Nat × AV)} {L : List (Nat × Root)} {n id r : Nat} {v t : X} {vv z : β}
end
end Go.Ab
