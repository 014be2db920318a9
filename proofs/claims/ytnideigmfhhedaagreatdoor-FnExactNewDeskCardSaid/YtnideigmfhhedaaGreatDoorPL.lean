import Derived.Test.YtnideigmfhhedaaGreatDoorA30
set_option linter.unusedVariables false
set_option linter.unusedSimpArgs false
namespace Go.Ab
open Go.RowKit
theorem w64_id {x : Int} (h : -9223372036854775808 ≤ x ∧ x ≤ 9223372036854775807) : w64 x = x := wrap64 h
section
variable {S R α : Type} {body : (S → Option R) → S → Option R} {s0 : S} {Q : R → Prop}
theorem iter_mu (Inv : S → Prop) (μ : S → Nat) (step : ∀ s k, Inv s → (∀ s', Inv s' → μ s' < μ s → ∃ r, k s' = some r ∧ Q r) → ∃ r, body k s = some r ∧ Q r) : ∀ n s, Inv s → μ s < n → ∃ r, iter body n s = some r ∧ Q r
 | 0, s, _, h => by omega
 | n + 1, s, hI, h => step s (iter body n) hI (fun s' hI' hm => iter_mu Inv μ step n s' hI' (by omega))
theorem loop_mu (Inv : S → Prop) (μ : S → Nat) (h0 : Inv s0) (hm : μ s0 < lim) (step : ∀ s k, Inv s → (∀ s', Inv s' → μ s' < μ s → ∃ r, k s' = some r ∧ Q r) → ∃ r, body k s = some r ∧ Q r) : ∃ r, loop body s0 = some r ∧ Q r :=
 iter_mu Inv μ step lim s0 h0 hm
theorem lt_lim {n : Nat} (h : n ≤ 9223372036854775807) : n < lim := by unfold lim; omega
end
section
variable {R α : Type} {body : (Int → Option R) → Int → Option R}
end
theorem bif_f {α : Type} {a b : α} : (bif false then a else b) = b := rfl
theorem bif_dec {α : Type} {p : Prop} [Decidable p] {a b : α} : (bif decide p then a else b) = if p then a else b := by by_cases h : p <;> simp [h]
end Go.Ab
