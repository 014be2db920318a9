/- Names of valid persons; names among names (own text). -/
import Derived.Test.YtcoeihkaikmdpaaPPersons
set_option linter.unusedVariables false
set_option linter.unusedSimpArgs false
namespace Go.Ab
open Go.RowKit

theorem name_at : ∀ {A : List TPerson} {t : List UInt8} {q : TPerson}, ix A (atP A t) = some q → q.1 = t
  | [], t, q, h => by simp [atP, ix] at h
  | p :: A, t, q, h => by
    unfold atP at h
    by_cases h1 : p.1 = t
    · rw [if_pos h1] at h
      simp [ix] at h
      rw [← h]; exact h1
    · rw [if_neg h1] at h
      by_cases h2 : atP A t < 0
      · rw [if_pos h2] at h; simp [ix] at h
      · rw [if_neg h2] at h
        have h3 : (atP A t + 1).toNat = (atP A t).toNat + 1 := by omega
        simp only [ix, show (0 : Int) ≤ atP A t + 1 by omega, if_true, h3, List.getElem?_cons_succ] at h
        exact name_at (A := A) (t := t) (by unfold ix; rw [if_pos (by omega)]; exact h)
theorem at_pos {A : List TPerson} {t : List UInt8} (h : 0 ≤ atP A t) : ∃ q, A[(atP A t).toNat]? = some q ∧ ix A (atP A t) = some q ∧ q.1 = t := by
  have := atP_lt A t
  obtain ⟨q, hq⟩ := get_some (L := A) (n := (atP A t).toNat) (by omega)
  have h2 : ix A (atP A t) = some q := by unfold ix; rw [if_pos h]; exact hq
  exact ⟨q, hq, h2, name_at h2⟩
/-- Names stand in order: no two are alike. -/
theorem srt_lt {A : List TPerson} (hs : ∀ (j : Nat) x y, A[j]? = some x → A[j + 1]? = some y → Op.bytesLess x.1 y.1 = true) : ∀ (d i : Nat) x y, A[i]? = some x → A[i + d + 1]? = some y → Op.bytesLess x.1 y.1 = true
  | 0, i, x, y, hx, hy => hs i x y hx hy
  | d + 1, i, x, y, hx, hy => by
    obtain ⟨z, hz⟩ := get_some (L := A) (n := i + d + 1) (by have := get_lt hy; omega)
    exact bytes_trans (srt_lt hs d i x z hx hz) (hs _ z y hz hy)
theorem same_name {A : List TPerson} (hs : ∀ (j : Nat) x y, A[j]? = some x → A[j + 1]? = some y → Op.bytesLess x.1 y.1 = true) {i j : Nat} {x y : TPerson} (hx : A[i]? = some x) (hy : A[j]? = some y) (h : x.1 = y.1) : i = j := by
  rcases Nat.lt_trichotomy i j with h1 | h1 | h1
  · have := srt_lt hs (j - i - 1) i x y hx (by rw [show i + (j - i - 1) + 1 = j by omega]; exact hy)
    rw [h, bytes_irrefl] at this; cases this
  · exact h1
  · have := srt_lt hs (i - j - 1) j y x hy (by rw [show j + (i - j - 1) + 1 = i by omega]; exact hx)
    rw [h, bytes_irrefl] at this; cases this
theorem at_self {A : List TPerson} (hV : VP A) {i : Nat} {a : TPerson} (h : A[i]? = some a) : atP A a.1 = (i : Int) := by
  have h0 : 0 ≤ atP A a.1 := by
    have key : ∀ (A : List TPerson), a ∈ A → 0 ≤ atP A a.1 := by
      intro A
      induction A with
      | nil => intro h; simp at h
      | cons p A ih =>
        intro h
        simp only [atP]
        split
        · omega
        · rename_i hne
          rcases List.mem_cons.1 h with h | h
          · exact absurd (by rw [h]) hne
          · have := ih h
            rw [if_neg (by omega)]; omega
    exact key A (get_mem h)
  obtain ⟨q, hq, _, hn⟩ := at_pos h0
  have := same_name hV.srt hq h hn
  omega
/-- One of a name. -/
theorem same_one {A : List TPerson} (hV : VP A) {p q : TPerson} (hp : p ∈ A) (hq : q ∈ A) (h : p.1 = q.1) : p = q := by
  obtain ⟨i, hi⟩ := List.mem_iff_getElem?.1 hp
  obtain ⟨j, hj⟩ := List.mem_iff_getElem?.1 hq
  have := same_name hV.srt hi hj h
  subst this
  rw [hi] at hj; exact Option.some.inj hj
end Go.Ab
