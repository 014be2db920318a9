/- CountProblems: the program's and the reference's (own text). -/
import Derived.Test.YtcjbdiiffpkdoaaPS
set_option linter.unusedVariables false
set_option linter.unusedSimpArgs false
namespace Go.Ab
open Go.RowKit Go.Proofs
theorem cnt_in (a b c : Int) : F_spec_l00In a b c = some (decide (b ≤ a ∧ a ≤ c)) := by
  unfold F_spec_l00In
  by_cases h : b ≤ a <;> simp [h]
theorem cnt_within (a b c : Int) : F_impl_within a b c = some (decide (b ≤ a ∧ a ≤ c)) := by
  unfold F_impl_within
  by_cases h : b ≤ a <;> simp [h]
/-- One problem more. -/
def cs (C : List Int) (x : TProblem) : List Int :=
  if 1 ≤ x.1 ∧ x.1 ≤ 5 then (C.set 0 (w64 (C.headD 0 + 1))).set x.1.toNat (w64 (C.getD x.1.toNat 0 + 1)) else C
theorem six {C : List Int} (h : C.length = 6) : ∃ a b c d e f, C = [a, b, c, d, e, f] := by
  match C, h with
  | [a, b, c, d, e, f], _ => exact ⟨a, b, c, d, e, f, rfl⟩
theorem cs_len {C : List Int} (h : C.length = 6) (x : TProblem) : (cs C x).length = 6 := by
  unfold cs; split <;> simp [h]
theorem fold_len (L : List TProblem) : ∀ C : List Int, C.length = 6 → (L.foldl cs C).length = 6 := by
  induction L with
  | nil => intro C h; exact h
  | cons x t ih => intro C h; exact ih _ (cs_len h x)
theorem fives {k : Int} (h : 1 ≤ k ∧ k ≤ 5) : k = 1 ∨ k = 2 ∨ k = 3 ∨ k = 4 ∨ k = 5 := by omega
theorem core_CountProblems (A : List TProblem) (oA : (OkL OkProblem) A) (sA : (SmL SmProblem) A) :
    ∃ w, F_spec_CountProblems A = some w ∧ F_impl_CountProblems A = some w ∧ (SmL (fun _ => True)) w := by
  have hA := oA.1
  have h0 : List.replicate ((6 : Int)).toNat (0 : Int) = [0, 0, 0, 0, 0, 0] := rfl
  have one : ∀ i : Nat, ∀ a, A[i]? = some a → (A.take (i + 1)).foldl cs [0, 0, 0, 0, 0, 0] = cs ((A.take i).foldl cs [0, 0, 0, 0, 0, 0]) a := by
    intro i a ha
    rw [take_succ ha, List.foldl_append]; rfl
  refine ⟨A.foldl cs [0, 0, 0, 0, 0, 0], ?_, ?_, ?_⟩
  · unfold F_spec_CountProblems
    rw [need_true (by omega), h0]
    obtain ⟨r, e, hr⟩ := loop_ex (body := F_spec_CountProblems_l0 A) (s0 := (0, [0, 0, 0, 0, 0, 0])) (Q := fun r => r = A.foldl cs [0, 0, 0, 0, 0, 0]) (L := A)
      (fun i s => s.1 = (i : Int) ∧ s.2 = (A.take i).foldl cs [0, 0, 0, 0, 0, 0]) hA ⟨rfl, rfl⟩
      (by
        rintro i ⟨j, C⟩ k a ha hi ⟨rfl, hC⟩ hk
        dsimp only at hC
        have hl : C.length = 6 := by rw [hC]; exact fold_len _ _ rfl
        have hn := one i a ha
        rw [← hC] at hn
        simp only [F_spec_CountProblems_l0, int_lt (get_lt ha), bif_t, ix_get ha, Option.bind_some, F_spec_l31Kind, cnt_in, w64_succ hi]
        by_cases hx : 1 ≤ a.1 ∧ a.1 ≤ 5
        · obtain ⟨c0, c1, c2, c3, c4, c5, rfl⟩ := six hl
          have hk := hk (((i + 1 : Nat) : Int), cs [c0, c1, c2, c3, c4, c5] a) ⟨rfl, hn.symm⟩
          obtain ⟨r, hr, hq⟩ := hk
          refine ⟨r, ?_, hq⟩
          rw [decide_eq_true hx, bif_t, ← hr]
          obtain ⟨x, y, z⟩ := a
          dsimp only at hx ⊢
          rcases fives hx with rfl | rfl | rfl | rfl | rfl <;> rfl
        · have hk := hk (((i + 1 : Nat) : Int), C) ⟨rfl, by rw [hn, cs, if_neg hx]⟩
          rw [decide_eq_false hx, bif_f]
          exact hk)
      (by
        rintro ⟨j, C⟩ k ⟨rfl, hC⟩
        refine ⟨C, by simp [F_spec_CountProblems_l0], ?_⟩
        dsimp only at hC
        rw [hC, take_all (Nat.le_refl _)])
    rw [e, hr]
  · unfold F_impl_CountProblems
    rw [need_true (by omega), h0]
    obtain ⟨r, e, hr⟩ := loop_ex (body := F_impl_CountProblems_l0 A) (s0 := (0, [0, 0, 0, 0, 0, 0])) (Q := fun r => r = A.foldl cs [0, 0, 0, 0, 0, 0]) (L := A)
      (fun i s => s.1 = (i : Int) ∧ s.2 = (A.take i).foldl cs [0, 0, 0, 0, 0, 0]) hA ⟨rfl, rfl⟩
      (by
        rintro i ⟨j, C⟩ k a ha hi ⟨rfl, hC⟩ hk
        dsimp only at hC
        have hl : C.length = 6 := by rw [hC]; exact fold_len _ _ rfl
        have hn := one i a ha
        rw [← hC] at hn
        simp only [F_impl_CountProblems_l0, int_lt (get_lt ha), bif_t, ix_get ha, Option.bind_some, cnt_within, w64_succ hi]
        by_cases hx : 1 ≤ a.1 ∧ a.1 ≤ 5
        · obtain ⟨c0, c1, c2, c3, c4, c5, rfl⟩ := six hl
          have hk := hk (((i + 1 : Nat) : Int), cs [c0, c1, c2, c3, c4, c5] a) ⟨rfl, hn.symm⟩
          obtain ⟨r, hr, hq⟩ := hk
          refine ⟨r, ?_, hq⟩
          rw [decide_eq_true hx, bif_t, ← hr]
          obtain ⟨x, y, z⟩ := a
          dsimp only at hx ⊢
          rcases fives hx with rfl | rfl | rfl | rfl | rfl <;> rfl
        · have hk := hk (((i + 1 : Nat) : Int), C) ⟨rfl, by rw [hn, cs, if_neg hx]⟩
          rw [decide_eq_false hx, bif_f]
          exact hk)
      (by
        rintro ⟨j, C⟩ k ⟨rfl, hC⟩
        refine ⟨C, by simp [F_impl_CountProblems_l0], ?_⟩
        dsimp only at hC
        rw [hC, take_all (Nat.le_refl _)])
    rw [e, hr]
  · refine ⟨?_, fun _ _ => trivial⟩
    rw [fold_len _ _ rfl]; omega
end Go.Ab
