/- Loops that collect (own text). -/
import Derived.Test.YtbmcnmmaplagbaaPL
set_option linter.unusedVariables false
set_option linter.unusedSimpArgs false
namespace Go.Ab
open Go.RowKit
/-- A loop that collects what passes a test. -/
theorem loop_filter {α β R : Type} {A : List α} (g : α → Bool) (f : α → β) {body : (Int × List β → Option R) → Int × List β → Option R} (fin : List β → R) (hA : A.length ≤ 9223372036854775807)
    (more : ∀ (i : Nat) (B : List β) k a, A[i]? = some a → i < 9223372036854775807 → B.length ≤ i → i < A.length → body k ((i : Int), B) = bif g a then k (((i + 1 : Nat) : Int), B ++ [f a]) else k (((i + 1 : Nat) : Int), B))
    (done : ∀ (B : List β) k, body k ((A.length : Int), B) = some (fin B)) : loop body (0, []) = some (fin ((A.filter g).map f)) := by
  obtain ⟨r, e, hr⟩ := loop_ex (body := body) (s0 := ((0 : Int), ([] : List β))) (Q := fun r => r = fin ((A.filter g).map f)) (L := A)
    (fun i s => s.1 = (i : Int) ∧ s.2 = ((A.take i).filter g).map f) hA ⟨rfl, rfl⟩
    (by
      rintro i ⟨j, B⟩ k a ha hi ⟨rfl, hB⟩ hk
      dsimp only at hB
      have hl : B.length ≤ i := by
        rw [hB, List.length_map]
        have h1 : ((A.take i).filter g).length ≤ (A.take i).length := List.length_filter_le _ _
        have h2 : (A.take i).length ≤ i := by rw [List.length_take]; omega
        omega
      have hn : (A.take (i + 1)).filter g = (A.take i).filter g ++ (if g a = true then [a] else []) := by
        rw [take_succ ha, List.filter_append]
        congr 1
        cases hg : g a <;> simp [hg]
      rw [more i B k a ha hi hl (get_lt ha)]
      cases hg : g a
      · simp only [hg, Bool.false_eq_true, if_false, List.append_nil] at hn
        exact hk _ ⟨rfl, by rw [hB, hn]⟩
      · simp only [hg, if_true] at hn
        exact hk _ ⟨rfl, by rw [hB, hn]; simp⟩)
    (by
      rintro ⟨j, B⟩ k ⟨rfl, hB⟩
      dsimp only at hB
      refine ⟨_, done B k, ?_⟩
      rw [hB, take_all (Nat.le_refl _)])
  rw [e, hr]
theorem filter_len {α β : Type} {A : List α} {g : α → Bool} {f : α → β} {n : Nat} (h : A.length ≤ n) : ((A.filter g).map f).length ≤ n := by
  rw [List.length_map]
  exact Nat.le_trans (List.length_filter_le _ _) h
end Go.Ab
