import Derived.Test.YtcklbccpfpnmbaaGreatDoorPD
set_option linter.unusedVariables false
set_option linter.unusedSimpArgs false
namespace Go.Ab
open Go.RowKit
def X5 {α : Type} (H : α → Int → Int → Prop) : List α → Int → Int → Prop
 | [], _, n => n = 0
 | a :: t, k, n => ∃ n1 n2, H a k n1 ∧ 0 ≤ n1 ∧ 0 ≤ n2 ∧ X5 H t (k + n1) n2 ∧ n = n1 + n2
theorem a7g {α : Type} {H : α → Int → Int → Prop} : ∀ {L : List α} {k n : Int} {a : α} {m : Int}, X5 H L k n → H a (k + n) m → 0 ≤ m → 0 ≤ n → X5 H (L ++ [a]) k (n + m)
 | [], k, n, a, m, h, ha, hm, _ => by
  simp only [X5] at h
  subst h
  exact ⟨m, 0, by simpa using ha, hm, Int.le_refl _, rfl, by omega⟩
 | x :: t, k, n, a, m, h, ha, hm, _ => by
  obtain ⟨n1, n2, h1, h2, h3, h4, rfl⟩ := h
  exact ⟨n1, n2 + m, h1, h2, by omega, a7g h4 (by rw [Int.add_assoc]; exact ha) hm h3, by omega⟩
theorem a0D {α : Type} {body : (Int × Int × List α → Option (List α × Int)) → Int × Int × List α → Option (List α × Int)} (H : α → Int → Int → Prop) (P : α → Prop) (Nb : Int) (hNb : 0 ≤ Nb) (L : List α) (k0 : Int) (hL : (L.length : Int) ≤ 1048576) (hk : 1 ≤ k0) (hb : k0 + 1048576 * Nb ≤ 4611686018427387904) (hP : ∀ a ∈ L, P a)
  (step : ∀ (i : Nat) (k : Int) (M : List α) (a : α) K, M[i]? = some a → i < 9223372036854775807 → P a → 1 ≤ k → k + Nb ≤ 4611686018427387904 → ∃ a' n, H a' k n ∧ 0 ≤ n ∧ n ≤ Nb ∧ P a' ∧ body K (k, (i : Int), M) = K (k + n, ((i + 1 : Nat) : Int), M.set i a'))
  (stop : ∀ k M K, body K (k, (M.length : Int), M) = some (M, k)) :
  ∃ L' n, loop body (k0, 0, L) = some (L', k0 + n) ∧ 0 ≤ n ∧ n ≤ 1048576 * Nb ∧ L'.length = L.length ∧ (∀ a ∈ L', P a) ∧ X5 H L' k0 n := by
 have := G3 (body := body) (L := L) (s0 := (k0, 0, L)) (Q := fun r => ∃ L' n, r = (L', k0 + n) ∧ 0 ≤ n ∧ n ≤ 1048576 * Nb ∧ L'.length = L.length ∧ (∀ a ∈ L', P a) ∧ X5 H L' k0 n)
  (fun i s => ∃ A n, s = (k0 + n, (i : Int), A ++ L.drop i) ∧ A.length = i ∧ 0 ≤ n ∧ n ≤ i * Nb ∧ (∀ a ∈ A, P a) ∧ X5 H A k0 n) (by omega) ⟨[], 0, by simp, rfl, Int.le_refl _, by omega, by simp, rfl⟩ ?_ ?_
 ·obtain ⟨r, h1, L', n, rfl, h2⟩ := this
  exact ⟨L', n, h1, h2⟩
 ·rintro i s K a ha hi ⟨A, n, rfl, hA, hn0, hn1, hPA, hM⟩ hK
  have hl := w8 ha
  have hget : (A ++ L.drop i)[i]? = some a := by
   rw [List.getElem?_append_right (by omega), hA, Nat.sub_self, List.getElem?_drop]; simpa using ha
  have hin : (i : Int) * Nb + Nb ≤ 1048576 * Nb := by
   have : ((i : Int) + 1) * Nb ≤ 1048576 * Nb := Int.mul_le_mul_of_nonneg_right (by omega) hNb
   rw [Int.add_mul, Int.one_mul] at this; exact this
  obtain ⟨a', m, h1, h2, h3, h4, h5⟩ := step i (k0 + n) _ a K hget hi (hP a (B6 ha)) (by omega) (by omega)
  rw [h5]
  refine hK _ ⟨A ++ [a'], n + m, ?_, by simp [hA], by omega, ?_, ?_, a7g hM h1 h2 hn0⟩
  ·rw [L3 ha, List.set_append, if_neg (by omega), hA, Nat.sub_self, List.set_cons_zero, Int.add_assoc]
   simp
  ·have : ((i + 1 : Nat) : Int) * Nb = i * Nb + Nb := by rw [show ((i + 1 : Nat) : Int) = (i : Int) + 1 by omega, Int.add_mul, Int.one_mul]
   omega
  ·intro x hx
   rcases List.mem_append.1 hx with hx | hx
   ·exact hPA x hx
   ·rw [List.mem_singleton.1 hx]; exact h4
 ·rintro s K ⟨A, n, rfl, hA, hn0, hn1, hPA, hM⟩
  have e : A ++ L.drop L.length = A := by simp
  rw [e]
  have e2 : (L.length : Int) = (A.length : Int) := by omega
  rw [e2, stop]
  refine ⟨_, rfl, A, n, rfl, hn0, ?_, hA, hPA, hM⟩
  have : (L.length : Int) * Nb ≤ 1048576 * Nb := Int.mul_le_mul_of_nonneg_right hL hNb
  omega
theorem b5i {α : Type} {body : (Int × Int → Option Int) → Int × Int → Option Int} {H : α → Int → Int → Prop} {L : List α}
  (step : ∀ (i : Nat) (k : Int) (a : α) (n : Int) K, L[i]? = some a → i < 9223372036854775807 → H a k n → 0 ≤ n → 1 ≤ k → k + n ≤ 4611686018427387904 → body K (k, (i : Int)) = K (k + n, ((i + 1 : Nat) : Int)))
  (stop : ∀ k K, body K (k, (L.length : Int)) = some k) : ∀ (t : List α) (i : Nat) (k n : Int) (f : Nat), L.drop i = t → i ≤ L.length → L.length ≤ 9223372036854775807 → X5 H t k n → 0 ≤ n → 1 ≤ k → k + n ≤ 4611686018427387904 → t.length < f → iter body f (k, (i : Int)) = some (k + n)
 | [], i, k, n, 0, _, _, _, _, _, _, _, h => by simp at h
 | [], i, k, n, f + 1, hd, hi, _, hM, _, _, _, _ => by
  have : i = L.length := by
   have := congrArg List.length hd
   simp at this; omega
  subst this
  simp only [X5] at hM
  subst hM
  show body _ _ = _
  rw [stop, Int.add_zero]
 | a :: t, i, k, n, 0, _, _, _, _, _, _, _, h => by simp at h
 | a :: t, i, k, n, f + 1, hd, hi, hL, hM, hn, hk, hb, h => by
  have hil : i < L.length := by
   have := congrArg List.length hd
   simp at this; omega
  obtain ⟨b, hbb⟩ := C5 hil
  have hd2 := L3 hbb
  rw [hd] at hd2
  simp only [List.cons.injEq] at hd2
  obtain ⟨rfl, hd3⟩ := hd2
  obtain ⟨n1, n2, h1, h2, h3, h4, rfl⟩ := hM
  show body _ _ = _
  rw [step i k a n1 _ hbb (by omega) h1 h2 hk (by omega)]
  rw [b5i step stop t (i + 1) (k + n1) n2 f hd3.symm (by omega) hL h4 h3 (by omega) (by omega) (by simpa using h), Int.add_assoc]
theorem c0G {α : Type} {body : (Int × Int → Option Int) → Int × Int → Option Int} {H : α → Int → Int → Prop} {L : List α} {k n : Int} (hM : X5 H L k n) (hL : (L.length : Int) ≤ 1048576) (hn : 0 ≤ n) (hk : 1 ≤ k) (hb : k + n ≤ 4611686018427387904)
  (step : ∀ (i : Nat) (k : Int) (a : α) (n : Int) K, L[i]? = some a → i < 9223372036854775807 → H a k n → 0 ≤ n → 1 ≤ k → k + n ≤ 4611686018427387904 → body K (k, (i : Int)) = K (k + n, ((i + 1 : Nat) : Int)))
  (stop : ∀ k K, body K (k, (L.length : Int)) = some k) : loop body (k, 0) = some (k + n) :=
 b5i step stop L 0 k n lim rfl (Nat.zero_le _) (by omega) hM hn hk hb (a7Q (by omega))
end Go.Ab
