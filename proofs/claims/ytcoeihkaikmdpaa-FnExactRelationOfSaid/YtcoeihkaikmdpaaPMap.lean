/- Plain laws about maps (own text). -/
import Derived.Test.YtcoeihkaikmdpaaMP
import Derived.Test.YtcoeihkaikmdpaaPL
set_option linter.unusedVariables false
set_option linter.unusedSimpArgs false
namespace Go.Ab
open Go.RowKit
section
variable {κ β : Type} [DecidableEq κ]
theorem mfd_shift (k : κ) : ∀ (M : List (κ × β)) (i : Nat), mfd k M (i + 1) = (mfd k M i).map fun p => (p.1 + 1, p.2)
  | [], i => rfl
  | (k', v) :: M, i => by
    simp only [mfd]
    by_cases h : k = k'
    · simp [h]
    · simp only [h, if_false]; exact mfd_shift k M (i + 1)
theorem mhs_nil (k : κ) : mhs ([] : List (κ × β)) k = false := rfl
theorem mgt_nil (k : κ) (z : β) : mgt ([] : List (κ × β)) k z = z := rfl
theorem mst_nil (k : κ) (v : β) : mst ([] : List (κ × β)) k v = [(k, v)] := rfl
theorem mhs_cons (k k' : κ) (v : β) (M : List (κ × β)) : mhs ((k', v) :: M) k = (decide (k = k') || mhs M k) := by
  unfold mhs
  simp only [mfd]
  by_cases h : k = k'
  · simp [h]
  · simp only [h, if_false, decide_false, Bool.false_or]
    rw [show (1 : Nat) = 0 + 1 from rfl, mfd_shift]
    simp
theorem mgt_cons (k k' : κ) (v z : β) (M : List (κ × β)) : mgt ((k', v) :: M) k z = if k = k' then v else mgt M k z := by
  unfold mgt
  simp only [mfd]
  by_cases h : k = k'
  · simp [h]
  · simp only [h, if_false]
    rw [show (1 : Nat) = 0 + 1 from rfl, mfd_shift]
    cases mfd k M 0 <;> rfl
theorem mst_cons (k k' : κ) (v v' : β) (M : List (κ × β)) : mst ((k', v') :: M) k v = if k = k' then (k, v) :: M else (k', v') :: mst M k v := by
  unfold mst
  simp only [mfd]
  by_cases h : k = k'
  · simp [h]
  · simp only [h, if_false]
    rw [show (1 : Nat) = 0 + 1 from rfl, mfd_shift]
    cases mfd k M 0 <;> simp
theorem mhs_mst (k k' : κ) (v : β) : ∀ (M : List (κ × β)), mhs (mst M k v) k' = (decide (k' = k) || mhs M k')
  | [] => by rw [mst_nil, mhs_cons]
  | (k2, v2) :: M => by
    rw [mst_cons]
    split
    · rename_i h; subst h
      rw [mhs_cons, mhs_cons]
      cases decide (k' = k) <;> simp
    · rw [mhs_cons, mhs_cons, mhs_mst k k' v M]
      cases decide (k' = k2) <;> cases decide (k' = k) <;> simp
theorem mgt_mst (k k' : κ) (v z : β) : ∀ (M : List (κ × β)), mgt (mst M k v) k' z = if k' = k then v else mgt M k' z
  | [] => by rw [mst_nil, mgt_cons]
  | (k2, v2) :: M => by
    rw [mst_cons]
    split
    · rename_i h; subst h
      rw [mgt_cons, mgt_cons]
      by_cases h : k' = k <;> simp [h]
    · rename_i hk
      rw [mgt_cons, mgt_cons, mgt_mst k k' v z M]
      by_cases h : k' = k2
      · subst h; simp [show ¬ k' = k from fun h => hk h.symm]
      · simp [h]
end
end Go.Ab
