/- Searching by halves (own text). -/
import Derived.Test.YtbmcnmmaplagbaaPL
set_option linter.unusedVariables false
set_option linter.unusedSimpArgs false
namespace Go.Ab
open Go.RowKit
theorem half_eq (i j : Nat) (h : i + j ≤ 9223372036854775807) : w64 (Int.fdiv (IntKind.wrap .u64 (w64 ((i : Int) + (j : Int)))) (2 ^ (min ((1 : Int)).toNat (IntKind.bits .u64)))) = (((i + j) / 2 : Nat) : Int) := by
  have e1 : w64 ((i : Int) + (j : Int)) = ((i + j : Nat) : Int) := by rw [w64_id (by omega)]; omega
  have e2 : IntKind.wrap .u64 ((i + j : Nat) : Int) = ((i + j : Nat) : Int) := by
    simp only [IntKind.wrap, IntKind.signed, IntKind.bits]
    have : (((i + j : Nat) : Int) % 2 ^ 64) = ((i + j : Nat) : Int) := Int.emod_eq_of_lt (by omega) (by omega)
    simp [this]
    try omega
  rw [e1, e2]
  have e3 : (2 : Int) ^ (min ((1 : Int)).toNat (IntKind.bits .u64)) = 2 := rfl
  have e4 : Int.fdiv ((i + j : Nat) : Int) 2 = (((i + j) / 2 : Nat) : Int) := by
    rw [Int.fdiv_eq_ediv_of_nonneg _ (by omega)]
    omega
  rw [e3, e4, w64_id (by omega)]
/-- How many stand before. -/
def cut {α : Type} (c : α → Int) (A : List α) : Nat := (A.takeWhile fun x => decide (c x < 0)).length
theorem cut_le {α : Type} (c : α → Int) (A : List α) : cut c A ≤ A.length := by
  unfold cut
  exact (List.takeWhile_prefix _).length_le
theorem cut_lt {α : Type} {c : α → Int} : ∀ {A : List α} {k : Nat} {x : α}, A[k]? = some x → k < cut c A → c x < 0
  | [], k, x, h, _ => by simp at h
  | a :: A, k, x, h, hk => by
    unfold cut at hk
    rw [List.takeWhile_cons] at hk
    split at hk
    · rename_i ha
      cases k with
      | zero => simp at h; subst h; exact of_decide_eq_true ha
      | succ k => simp at h hk; exact cut_lt (A := A) h hk
    · simp at hk
theorem cut_at {α : Type} {c : α → Int} : ∀ {A : List α} {x : α}, A[cut c A]? = some x → ¬ c x < 0
  | [], x, h => by simp at h
  | a :: A, x, h => by
    unfold cut at h
    rw [List.takeWhile_cons] at h
    split at h
    · simp at h; exact cut_at (A := A) h
    · rename_i ha
      simp at h; subst h
      intro h2; exact ha (decide_eq_true h2)
theorem loop_search {α R : Type} {A : List α} {c : α → Int} {body : (Int × Int → Option R) → Int × Int → Option R} (fin : Nat → R) (hA : A.length ≤ 4611686018427387903)
    (mono : ∀ (i j : Nat) x y, i < j → A[i]? = some x → A[j]? = some y → c y < 0 → c x < 0)
    (step : ∀ (i j : Nat) k x, i < j → j ≤ A.length → A[(i + j) / 2]? = some x → body k ((i : Int), (j : Int)) = bif decide (c x < 0) then k ((((i + j) / 2 + 1 : Nat) : Int), (j : Int)) else k ((i : Int), (((i + j) / 2 : Nat) : Int)))
    (done : ∀ (i : Nat) k, i ≤ A.length → body k ((i : Int), (i : Int)) = some (fin i)) : loop body (0, (A.length : Int)) = some (fin (cut c A)) := by
  have below : ∀ (i : Nat) x, A[i]? = some x → c x < 0 → i < cut c A := by
    intro i x hx hc
    rcases Nat.lt_or_ge i (cut c A) with h | h
    · exact h
    · exfalso
      obtain ⟨y, hy⟩ := get_some (L := A) (n := cut c A) (by have := get_lt hx; omega)
      have hn := cut_at hy
      rcases Nat.lt_or_ge (cut c A) i with h2 | h2
      · exact hn (mono _ _ y x h2 hy hx hc)
      · have : i = cut c A := by omega
        subst this
        rw [hx] at hy; cases hy
        exact hn hc
  obtain ⟨r, e, hr⟩ := loop_mu (body := body) (s0 := ((0 : Int), (A.length : Int))) (Q := fun r => r = fin (cut c A))
    (fun s => ∃ i j : Nat, s = ((i : Int), (j : Int)) ∧ i ≤ cut c A ∧ cut c A ≤ j ∧ j ≤ A.length) (fun s => (s.2 - s.1).toNat) ⟨0, A.length, rfl, Nat.zero_le _, cut_le c A, Nat.le_refl _⟩ (lt_lim (by simp; omega))
    (by
      rintro _ k ⟨i, j, rfl, h1, h2, h3⟩ hk
      by_cases hij : i < j
      · obtain ⟨x, hx⟩ := get_some (L := A) (n := (i + j) / 2) (by omega)
        rw [step i j k x hij h3 hx, bif_dec]
        split
        · rename_i hc
          have := below _ x hx hc
          exact hk _ ⟨(i + j) / 2 + 1, j, rfl, by omega, h2, h3⟩ (by simp; omega)
        · rename_i hc
          refine hk _ ⟨i, (i + j) / 2, rfl, h1, ?_, by omega⟩ (by simp; omega)
          rcases Nat.lt_or_ge ((i + j) / 2) (cut c A) with h | h
          · exact absurd (cut_lt hx h) hc
          · exact h
      · have : i = j := by omega
        subst this
        have : i = cut c A := by omega
        refine ⟨_, done i k h3, by rw [this]⟩)
  rw [e, hr]
end Go.Ab
