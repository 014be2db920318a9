import Derived.Test.YtpnmhfbiaajaeaaGreatDoorMP
import Derived.Sort.Row
import Derived.Sort.Grow
import Derived.Sort.EncStr
set_option linter.unusedVariables false
set_option linter.unusedSimpArgs false
namespace Go.Ab
open Go.RowKit Go.Sort Go.Proofs
structure OneEnc {α : Type} (e : α → V) (enc : α → Value) : Prop where
 one : ∀ a, V.one (e a) = true
 inv : ∀ {w : World} {D : BSet} {o : Bool} {a : α} {x : Value} {S : BSet}, Rep w D o (e a) x S → x = enc a
 rep : ∀ {w : World} {D : BSet} {o : Bool} {a : α}, Rep w D o (e a) (enc a) Emp
theorem oneStr : OneEnc V.str encStr := ⟨fun _ => rfl, fun h => by cases h; rfl, .str _⟩
section
variable {α : Type} {e : α → V} {enc : α → Value}
theorem OneEnc.flat (h1 : OneEnc e enc) : ∀ A : List α, (A.map e).flatMap V.cells = A.map e
 | [] => rfl
 | a :: A => by rw [List.map_cons, List.flatMap_cons, V.cells_one (h1.one a), h1.flat A]; rfl
theorem OneEnc.vals (h1 : OneEnc e enc) {w : World} {D : BSet} {o : Bool} : ∀ {A : List α} {vs : List Value} {S : BSet}, Reps w D o (A.map e) vs S → vs = A.map enc
 | [], _, _, .nil => rfl
 | a :: A, _, _, .cons h hs _ _ _ => by rw [h1.inv h, h1.vals hs]; rfl
theorem OneEnc.reps (h1 : OneEnc e enc) {w : World} {D : BSet} {o : Bool} : ∀ (A : List α), Reps w D o (A.map e) (A.map enc) Emp
 | [] => .nil
 | a :: A => .cons h1.rep (h1.reps A) (fun _ h => h.elim) (fun _ h => h) (fun _ h => h)
theorem OneEnc.uni (h1 : OneEnc e enc) (A : List α) : Uni 1 (A.map e) := by
 intro x hx
 obtain ⟨a, _, rfl⟩ := List.mem_map.1 hx
 rw [V.cells_one (h1.one a)]
 exact ⟨rfl, fun c hc => by rw [List.mem_singleton.1 hc]; exact h1.one a⟩
end
end Go.Ab
