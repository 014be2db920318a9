/- MergeBlocks: the program's and the reference's (own text). -/
import Derived.Test.YtbmcnmmaplagbaaPIns
set_option linter.unusedVariables false
set_option linter.unusedSimpArgs false
namespace Go.Ab
open Go.RowKit
theorem ct_blocks {A : List TBlock} (h : A.length ≤ 1000) : (SmL CtBlock) A := ⟨by omega, fun _ _ => ⟨trivial, trivial, trivial⟩⟩
def mrg (A B : List TBlock) : List TBlock := B.foldl insB A
theorem mrg_loop {A B : List TBlock} (hs : Srt A) (hB : Srt B) (hl : A.length ≤ 100) (hlB : B.length ≤ 100) {body : (Int × List TBlock → Option ((List TBlock) × Int)) → Int × List TBlock → Option ((List TBlock) × Int)}
    (more : ∀ (i : Nat) (L : List TBlock) k t, B[i]? = some t → i < 9223372036854775807 → Srt L → L.length ≤ 1000 → body k ((i : Int), L) = k (((i + 1 : Nat) : Int), insB L t))
    (done : ∀ (L : List TBlock) k, body k ((B.length : Int), L) = bif decide ((32 : Int) < (L.length : Int)) then some ([], 5) else some (L, 0)) :
    loop body (0, A) = some (if (32 : Int) < ((mrg A B).length : Int) then ([], 5) else (mrg A B, 0)) := by
  obtain ⟨r, e, hr⟩ := loop_ex (body := body) (s0 := (0, A)) (L := B) (Q := fun r => r = if (32 : Int) < ((mrg A B).length : Int) then ([], 5) else (mrg A B, 0))
    (fun i s => s.1 = (i : Int) ∧ s.2 = mrg A (B.take i) ∧ Srt s.2 ∧ s.2.length ≤ A.length + i) (by omega) ⟨rfl, rfl, hs, by dsimp only; omega⟩
    (by
      rintro i ⟨_, L⟩ K t ht hi ⟨rfl, h1, h2, h3⟩ hK
      dsimp only at h1 h2 h3
      have hlt := get_lt ht
      have hn := insB_len L t
      rw [more i L K t ht hi h2 (by omega)]
      refine hK _ ⟨rfl, ?_, insB_srt h2 (hB.ok t (get_mem ht)), by dsimp only; omega⟩
      dsimp only
      rw [h1]
      unfold mrg
      rw [take_succ ht, List.foldl_append]; rfl)
    (by
      rintro ⟨_, L⟩ K ⟨rfl, h1, h2, h3⟩
      dsimp only at h1 h2 h3
      rw [take_all (Nat.le_refl _)] at h1
      rw [done, bif_dec, h1]
      split
      · exact ⟨_, rfl, rfl⟩
      · exact ⟨_, rfl, rfl⟩)
  rw [e, hr]
theorem core_MergeBlocks (A B : List TBlock) (oA : (OkL OkBlock) A) (oB : (OkL OkBlock) B) (sA : (SmL SmBlock) A) (sB : (SmL SmBlock) B) :
    ∃ w, F_spec_MergeBlocks A B = some w ∧ F_impl_MergeBlocks A B = some w ∧ (SmL CtBlock) w.1 := by
  unfold F_spec_MergeBlocks F_impl_MergeBlocks
  rw [l29Ok_eq oA, ValidBlocks_eq oA, l29Ok_eq oB, ValidBlocks_eq oB]
  simp only [Option.bind_some]
  cases h : blksOk A
  · exact ⟨_, rfl, rfl, ct_blocks (by simp)⟩
  cases h2 : blksOk B
  · exact ⟨_, rfl, rfl, ct_blocks (by simp)⟩
  have hs := srt_ok h
  have hl := (blkOk_len h).1
  have hsB := srt_ok h2
  have hlB := (blkOk_len h2).1
  simp only [Bool.not_true, bif_f]
  rw [CloneB_eq (room48 (by omega)), need_true (room48 (by omega))]
  simp only [Option.bind_some]
  refine ⟨_, mrg_loop hs hsB (by omega) (by omega) ?_ ?_, mrg_loop hs hsB (by omega) (by omega) ?_ ?_, ?_⟩
  · intro i L k t ht hi hL hl2
    simp only [F_spec_MergeBlocks_l0, int_lt (get_lt ht), bif_t, ix_get ht, Option.bind_some, l29Put_eq hL hl2, w64_succ hi]
  · intro L k
    simp only [F_spec_MergeBlocks_l0, int_lt_self, bif_f]
  · intro i L k t ht hi hL hl2
    simp only [F_impl_MergeBlocks_l0, int_lt (get_lt ht), bif_t, ix_get ht, Option.bind_some, withBlock_eq hL hl2, w64_succ hi]
  · intro L k
    simp only [F_impl_MergeBlocks_l0, int_lt_self, bif_f]
  · split
    · exact ct_blocks (by simp)
    · exact ct_blocks (by dsimp only; omega)
end Go.Ab
