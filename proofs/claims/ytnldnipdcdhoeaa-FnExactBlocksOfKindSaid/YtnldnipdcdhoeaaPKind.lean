/- BlocksOfKind: the program's and the reference's (own text). -/
import Derived.Test.YtnldnipdcdhoeaaPBlocks
import Derived.Test.YtnldnipdcdhoeaaPFil
set_option linter.unusedVariables false
set_option linter.unusedSimpArgs false
namespace Go.Ab
open Go.RowKit
theorem blksOk_len {A : List TBlock} (h : blksOk A = true) : A.length ≤ 32 := by
  unfold blksOk at h
  rw [Bool.and_eq_true] at h
  have := of_decide_eq_true h.2
  omega
theorem core_BlocksOfKind (A : List TBlock) (n : List UInt8) (oA : (OkL OkBlock) A) (on : OkS n) (sA : (SmL SmBlock) A) (sn : SmS n) :
    ∃ w, F_spec_BlocksOfKind A n = some w ∧ F_impl_BlocksOfKind A n = some w ∧ (SmL (fun _ => True)) w.1 := by
  unfold F_spec_BlocksOfKind F_impl_BlocksOfKind
  rw [l29Ok_eq oA, ValidBlocks_eq oA]
  simp only [Option.bind_some]
  cases h : blksOk A
  · exact ⟨_, rfl, rfl, by simp [SmL]⟩
  · have hl := blksOk_len h
    have hr : ∀ (i : Nat) (B : List (List UInt8)) (x : List UInt8), B.length ≤ i → i < A.length → room (B.length + [x].length) 16 := by
      intro i B x h1 h2
      constructor <;> simp <;> omega
    refine ⟨((A.filter fun b => decide (b.1 = n)).map (fun b => b.2.1), 0), ?_, ?_, ?_⟩
    · rw [Bool.not_true, bif_f]
      refine loop_filter (A := A) (fun b => decide (b.1 = n)) (fun b => b.2.1) (fun B => (B, (0 : Int))) oA.1 ?_ ?_
      · intro i B k a ha hi h1 h2
        simp only [F_spec_BlocksOfKind_l0, int_lt (get_lt ha), bif_t, ix_get ha, Option.bind_some, w64_succ hi, need_true (hr i B a.2.1 h1 h2)]
      · intro B k
        simp only [F_spec_BlocksOfKind_l0, int_lt_self, bif_f]
    · rw [Bool.not_true, bif_f]
      refine loop_filter (A := A) (fun b => decide (b.1 = n)) (fun b => b.2.1) (fun B => (B, (0 : Int))) oA.1 ?_ ?_
      · intro i B k a ha hi h1 h2
        simp only [F_impl_BlocksOfKind_l0, int_lt (get_lt ha), bif_t, ix_get ha, Option.bind_some, w64_succ hi, need_true (hr i B a.2.1 h1 h2)]
      · intro B k
        simp only [F_impl_BlocksOfKind_l0, int_lt_self, bif_f]
    · have := filter_len (g := fun b : TBlock => decide (b.1 = n)) (f := fun b : TBlock => b.2.1) hl
      exact ⟨by dsimp only; omega, fun _ _ => trivial⟩
end Go.Ab
