import Derived.Test.YtpnmhfbiaajaeaaGreatDoorA30
set_option linter.unusedVariables false
set_option linter.unusedSimpArgs false
namespace Go.Ab
open Go.RowKit
theorem w64_id {x : Int} (h : -9223372036854775808 ≤ x ∧ x ≤ 9223372036854775807) : w64 x = x := wrap64 h
theorem w64_succ {n : Nat} (h : n < 9223372036854775807) : w64 ((n : Int) + 1) = ((n + 1 : Nat) : Int) := by
 rw [w64_id (by omega)]; omega
theorem w64_pred {n : Nat} (h : n < 9223372036854775807) : w64 (((n + 1 : Nat) : Int) - 1) = (n : Int) := by
 rw [w64_id (by omega)]; omega
theorem ix_get {α : Type} {L : List α} {n : Nat} {a : α} (h : L[n]? = some a) : ix L (n : Int) = some a := by rw [ix_nat]; exact h
theorem ix_zero {α : Type} {a : α} {L : List α} : ix (a :: L) 0 = some a := rfl
theorem get_lt {α : Type} {L : List α} {n : Nat} {a : α} (h : L[n]? = some a) : n < L.length := (List.getElem?_eq_some_iff.1 h).1
theorem get_mem {α : Type} {L : List α} {n : Nat} {a : α} (h : L[n]? = some a) : a ∈ L := List.mem_of_getElem? h
theorem get_some {α : Type} {L : List α} {n : Nat} (h : n < L.length) : ∃ a, L[n]? = some a := ⟨_, List.getElem?_eq_getElem h⟩
theorem take_succ {α : Type} {L : List α} {n : Nat} {a : α} (h : L[n]? = some a) : L.take (n + 1) = L.take n ++ [a] := by
 rw [List.take_add_one, h]; rfl
theorem drop_cons {α : Type} {L : List α} {n : Nat} {a : α} (h : L[n]? = some a) : L.drop n = a :: L.drop (n + 1) := by
 have hl := get_lt h
 rw [List.drop_eq_getElem_cons hl]
 have := (List.getElem?_eq_some_iff.1 h).2
 rw [this]
theorem take_all {α : Type} {L : List α} {n : Nat} (h : L.length ≤ n) : L.take n = L := List.take_of_length_le h
section
variable {S R α : Type} {body : (S → Option R) → S → Option R} {s0 : S} {Q : R → Prop}
theorem iter_mu (Inv : S → Prop) (μ : S → Nat) (step : ∀ s k, Inv s → (∀ s', Inv s' → μ s' < μ s → ∃ r, k s' = some r ∧ Q r) → ∃ r, body k s = some r ∧ Q r) : ∀ n s, Inv s → μ s < n → ∃ r, iter body n s = some r ∧ Q r
 | 0, s, _, h => by omega
 | n + 1, s, hI, h => step s (iter body n) hI (fun s' hI' hm => iter_mu Inv μ step n s' hI' (by omega))
theorem loop_mu (Inv : S → Prop) (μ : S → Nat) (h0 : Inv s0) (hm : μ s0 < lim) (step : ∀ s k, Inv s → (∀ s', Inv s' → μ s' < μ s → ∃ r, k s' = some r ∧ Q r) → ∃ r, body k s = some r ∧ Q r) : ∃ r, loop body s0 = some r ∧ Q r :=
 iter_mu Inv μ step lim s0 h0 hm
theorem lt_lim {n : Nat} (h : n ≤ 9223372036854775807) : n < lim := by unfold lim; omega
theorem loop_ex {L : List α} (Inv : Nat → S → Prop) (hL : L.length ≤ 9223372036854775807) (h0 : Inv 0 s0)
  (more : ∀ i s k a, L[i]? = some a → i < 9223372036854775807 → Inv i s → (∀ s', Inv (i + 1) s' → ∃ r, k s' = some r ∧ Q r) → ∃ r, body k s = some r ∧ Q r)
  (done : ∀ s k, Inv L.length s → ∃ r, body k s = some r ∧ Q r) : ∃ r, loop body s0 = some r ∧ Q r := by
 have key : ∀ n i s, i ≤ L.length → Inv i s → L.length - i < n → ∃ r, iter body n s = some r ∧ Q r := by
  intro n
  induction n with
  | zero => intro i s _ _ h; omega
  | succ n ih =>
   intro i s hi hI hn
   by_cases h : i = L.length
   ·subst h; exact done s _ hI
   ·obtain ⟨a, ha⟩ := get_some (L := L) (n := i) (by omega)
    exact more i s _ a ha (by omega) hI (fun s' hI' => ih (i + 1) s' (by omega) hI' (by omega))
 exact key lim 0 s0 (Nat.zero_le _) h0 (lt_lim (by omega))
end
section
variable {R α : Type} {body : (Int → Option R) → Int → Option R}
theorem loop_at {L : List α} (G : Nat → R) (hL : L.length ≤ 9223372036854775807)
  (more : ∀ (i : Nat) k a, L[i]? = some a → i < 9223372036854775807 → k ((i + 1 : Nat) : Int) = some (G (i + 1)) → body k (i : Int) = some (G i))
  (done : ∀ k, body k (L.length : Int) = some (G L.length)) : loop body 0 = some (G 0) := by
 have key : ∀ n i, i ≤ L.length → L.length - i < n → iter body n (i : Int) = some (G i) := by
  intro n
  induction n with
  | zero => intro i _ h; omega
  | succ n ih =>
   intro i hi hn
   by_cases h : i = L.length
   ·subst h; exact done _
   ·obtain ⟨a, ha⟩ := get_some (L := L) (n := i) (by omega)
    exact more i _ a ha (by omega) (ih (i + 1) (by omega) (by omega))
 exact key lim 0 (Nat.zero_le _) (lt_lim (by omega))
theorem loop_sfx {L : List α} (g : List α → R) (hL : L.length ≤ 9223372036854775807)
  (more : ∀ (i : Nat) k a t, L[i]? = some a → i < 9223372036854775807 → k ((i + 1 : Nat) : Int) = some (g t) → body k (i : Int) = some (g (a :: t)))
  (done : ∀ k, body k (L.length : Int) = some (g [])) : loop body 0 = some (g L) := by
 refine loop_at (L := L) (fun i => g (L.drop i)) hL ?_ ?_
 ·intro i k a ha hi hk
  rw [drop_cons ha]
  exact more i k a _ ha hi hk
 ·intro k
  rw [List.drop_length]
  exact done k
theorem loop_all {body : (Int → Option Bool) → Int → Option Bool} {L : List α} (p : α → Bool) (hL : L.length ≤ 9223372036854775807)
  (more : ∀ (i : Nat) k a, L[i]? = some a → i < 9223372036854775807 → body k (i : Int) = bif p a then k ((i + 1 : Nat) : Int) else some false)
  (done : ∀ k, body k (L.length : Int) = some true) : loop body 0 = some (L.all p) := by
 refine loop_sfx (fun l => l.all p) hL ?_ done
 intro i k a t ha hi hk
 rw [more i k a ha hi, hk]
 cases h : p a <;> simp [h]
end
theorem int_lt {i : Nat} {n : Nat} (h : i < n) : decide ((i : Int) < (n : Int)) = true := decide_eq_true (by omega)
theorem int_lt_self {n : Nat} : decide ((n : Int) < (n : Int)) = false := decide_eq_false (by omega)
theorem bif_t {α : Type} {a b : α} : (bif true then a else b) = a := rfl
theorem bif_f {α : Type} {a b : α} : (bif false then a else b) = b := rfl
theorem bif_dec {α : Type} {p : Prop} [Decidable p] {a b : α} : (bif decide p then a else b) = if p then a else b := by by_cases h : p <;> simp [h]
end Go.Ab
