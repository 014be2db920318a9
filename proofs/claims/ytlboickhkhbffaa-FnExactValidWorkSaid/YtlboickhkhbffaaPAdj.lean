import Derived.Test.YtlboickhkhbffaaPNames
set_option linter.unusedVariables false
set_option linter.unusedSimpArgs false
namespace Go.Ab
open Go.RowKit
section
variable {α : Type}
def adj (one : α → Bool) (bef : α → α → Bool) : Option α → List α → Bool
 | _, [] => true
 | none, x :: t => one x && adj one bef (some x) t
 | some q, x :: t => one x && (bef q x && adj one bef (some x) t)
def prevA (A : List α) : Nat → Option α
 | 0 => none
 | n + 1 => A[n]?
theorem loop_adj {A : List α} {one : α → Bool} {bef : α → α → Bool} {fin : Bool} {body : (Int → Option Bool) → Int → Option Bool} (hA : A.length ≤ 9223372036854775807)
  (first : ∀ k a, A[0]? = some a → body k 0 = bif one a then k 1 else some false)
  (more : ∀ (i : Nat) k q a, A[i]? = some q → A[i + 1]? = some a → i + 1 < 9223372036854775807 → body k ((i + 1 : Nat) : Int) = bif one a then (bif bef q a then k ((i + 2 : Nat) : Int) else some false) else some false)
  (done : ∀ k, body k (A.length : Int) = some fin) : loop body 0 = some (adj one bef none A && fin) := by
 have := loop_at (L := A) (body := body) (fun i => adj one bef (prevA A i) (A.drop i) && fin) hA ?_ ?_
 ·exact this
 ·intro i k a ha hi hk
  rw [drop_cons ha]
  cases i with
  | zero =>
   have h1 := first k a ha
   have hp : prevA A 1 = some a := ha
   rw [hp] at hk
   show body k 0 = _
   rw [h1]
   simp only [prevA, adj]
   cases one a
   ·rfl
   ·exact hk
  | succ n =>
   obtain ⟨q, hq⟩ := get_some (L := A) (n := n) (by have := get_lt ha; omega)
   have h1 := more n k q a hq ha hi
   have hp : prevA A (n + 1 + 1) = some a := ha
   rw [hp] at hk
   rw [h1]
   simp only [prevA, hq, adj]
   cases one a
   ·rfl
   ·cases bef q a
    ·rfl
    ·exact hk
 ·intro k
  rw [done, List.drop_length]
  cases prevA A A.length <;> simp [adj]
end
theorem adj_all {α : Type} {one : α → Bool} {bef : α → α → Bool} : ∀ {A : List α} {p : Option α}, adj one bef p A = true → (∀ x ∈ A, one x = true) ∧ (∀ (i : Nat) x y, A[i]? = some x → A[i + 1]? = some y → bef x y = true)
 | [], p, h => by simp
 | a :: A, p, h => by
  have h2 : one a = true ∧ adj one bef (some a) A = true := by
   cases p with
   | none => simpa [adj] using h
   | some q => simp [adj] at h; exact ⟨h.1, h.2.2⟩
  obtain ⟨k1, k2⟩ := adj_all (A := A) h2.2
  refine ⟨fun x hx => ?_, fun i x y hx hy => ?_⟩
  ·rcases List.mem_cons.1 hx with h | h
   ·rw [h]; exact h2.1
   ·exact k1 x h
  ·cases i with
   | zero =>
    simp at hx hy; subst hx
    cases A with
    | nil => simp at hy
    | cons b A =>
     simp at hy; subst hy
     have := h2.2
     simp [adj] at this; exact this.2.1
   | succ i => simp at hx hy; exact k2 i x y hx hy
end Go.Ab
