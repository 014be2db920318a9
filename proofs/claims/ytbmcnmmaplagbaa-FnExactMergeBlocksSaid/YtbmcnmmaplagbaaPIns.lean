/- A block put in its place (own text). -/
import Derived.Test.YtbmcnmmaplagbaaPSrtB
set_option linter.unusedVariables false
set_option linter.unusedSimpArgs false
namespace Go.Ab
open Go.RowKit
theorem CloneB_eq {A : List TBlock} (h : room A.length 48) : F_slices_Clone_SBlock_Block A = some A := by
  unfold F_slices_Clone_SBlock_Block
  have e : F_slices_Clone_SBlock_Block_j0 A = some A := by unfold F_slices_Clone_SBlock_Block_j0; rw [need_true h]
  rw [e, bif_dec]
  split
  · rename_i h0
    have : A = [] := List.eq_nil_of_length_eq_zero (by omega)
    subst this
    exact both_eq rfl
  · rfl
theorem room48 {n : Nat} (h : n ≤ 100000) : room n 48 := ⟨by omega, by omega⟩
def afterB (A : List TBlock) (t : TBlock) : Nat := if hasB A t = true then cutB A t + 1 else cutB A t
def insB (A : List TBlock) (t : TBlock) : List TBlock := A.take (cutB A t) ++ t :: A.drop (afterB A t)
theorem after_le (A : List TBlock) (t : TBlock) : cutB A t ≤ afterB A t ∧ afterB A t ≤ cutB A t + 1 ∧ afterB A t ≤ A.length := by
  have hc := cutB_le A t
  unfold afterB
  split
  · rename_i h
    obtain ⟨x, hx, _⟩ := has_some h
    have := get_lt hx
    omega
  · omega
theorem insB_len (A : List TBlock) (t : TBlock) : (insB A t).length ≤ A.length + 1 := by
  have hc := cutB_le A t
  have := after_le A t
  unfold insB
  rw [List.length_append, List.length_cons, List.length_take, List.length_drop]
  omega
theorem withBlock_eq {A : List TBlock} (hs : Srt A) (hl : A.length ≤ 1000) (t : TBlock) : F_impl_withBlock A t = some (insB A t) := by
  have hc := cutB_le A t
  unfold F_impl_withBlock
  rw [search_eq hs (by omega), CloneB_eq (room48 (by omega))]
  simp only [Option.bind_some]
  unfold insB afterB
  cases hh : hasB A t
  · have hr : room (A.length + 1) 48 := room48 (by omega)
    simp only [bif_f, F_ins, List.length_singleton]
    rw [need_true ⟨by omega, by omega, hr⟩]
    simp
  · obtain ⟨x, hx, _⟩ := has_some hh
    have hlt := get_lt hx
    simp only [bif_t, ix_get hx, Option.bind_some, Int.toNat_natCast, if_true]
    rw [List.set_eq_take_append_cons_drop, if_pos hlt]
theorem bef_tot {x y : TBlock} (h1 : blkBef x y = false) (h2 : ¬ sameKey x y) : blkBef y x = true := by
  have key : ∀ a b : List UInt8, Op.bytesLess a b = false → a ≠ b → Op.bytesLess b a = true := by
    intro a b h hn
    rcases bytes_tri a b with h1 | h1 | h1
    · rw [h] at h1; cases h1
    · exact absurd h1 hn
    · exact h1
  unfold blkBef at *
  rw [Bool.or_eq_false_iff] at h1
  by_cases e : x.1 = y.1
  · rw [decide_eq_true e, Bool.true_and] at h1
    have := key _ _ h1.2 (fun e2 => h2 ⟨e, e2⟩)
    simp [e, this]
  · have := key _ _ h1.1 e
    simp [this]
theorem bef_asym {x y : TBlock} (h : blkBef x y = true) : blkBef y x = false := by
  cases h2 : blkBef y x
  · rfl
  · have := bef_trans h h2
    rw [bef_irr] at this; cases this
/-- What stands before, at and behind. -/
theorem cut_bef {A : List TBlock} {t : TBlock} {k : Nat} {x : TBlock} (hx : A[k]? = some x) (hk : k < cutB A t) : blkBef x t = true :=
  (bef_cmp x t).2 (cut_lt (c := fun x => blkCmp x t) hx hk)
theorem cut_aft {A : List TBlock} (hs : Srt A) {t : TBlock} {k : Nat} {x : TBlock} (hx : A[k]? = some x) (hk : afterB A t ≤ k) : blkBef t x = true := by
  have hlt := get_lt hx
  unfold afterB at hk
  cases hh : hasB A t
  · rw [hh] at hk
    simp only [Bool.false_eq_true, if_false] at hk
    obtain ⟨y, hy⟩ := get_some (L := A) (n := cutB A t) (by omega)
    have h1 : blkBef y t = false := by
      cases h : blkBef y t
      · rfl
      · exact absurd ((bef_cmp y t).1 h) (cut_at (c := fun x => blkCmp x t) hy)
    have h2 : ¬ sameKey y t := fun hk2 => by
      have := (has_at hs hy hk2).2
      rw [hh] at this; cases this
    have h3 := bef_tot h1 h2
    by_cases e : k = cutB A t
    · subst e; rw [hx] at hy; cases hy; exact h3
    · exact bef_trans h3 (hs.srt _ _ y x (by omega) hy hx)
  · rw [hh] at hk
    simp only [if_true] at hk
    obtain ⟨y, hy, hk2⟩ := has_some hh
    rw [← key_bef hk2]
    exact hs.srt _ _ y x (by omega) hy hx
theorem srt_pw {A : List TBlock} : (∀ (i j : Nat) x y, i < j → A[i]? = some x → A[j]? = some y → blkBef x y = true) ↔ List.Pairwise (fun x y => blkBef x y = true) A := by
  rw [List.pairwise_iff_getElem]
  constructor
  · intro h i j hi hj hij
    exact h i j _ _ hij (List.getElem?_eq_getElem hi) (List.getElem?_eq_getElem hj)
  · intro h i j x y hij hx hy
    have h1 := get_lt hx
    have h2 := get_lt hy
    have := h i j h1 h2 hij
    rw [List.getElem?_eq_getElem h1] at hx
    rw [List.getElem?_eq_getElem h2] at hy
    cases hx; cases hy; exact this
theorem insB_srt {A : List TBlock} (hs : Srt A) {t : TBlock} (ht : blkOk t = true) : Srt (insB A t) := by
  refine ⟨fun x hx => ?_, srt_pw.2 ?_⟩
  · rcases List.mem_append.1 hx with h | h
    · exact hs.ok x (List.mem_of_mem_take h)
    · rcases List.mem_cons.1 h with h | h
      · rw [h]; exact ht
      · exact hs.ok x (List.mem_of_mem_drop h)
  · have hp := srt_pw.1 hs.srt
    unfold insB
    have h1 : ∀ x ∈ A.take (cutB A t), blkBef x t = true := by
      intro x hx
      obtain ⟨k, hk⟩ := List.mem_iff_getElem?.1 hx
      rw [List.getElem?_take] at hk
      split at hk
      · exact cut_bef hk (by assumption)
      · cases hk
    have h2 : ∀ x ∈ A.drop (afterB A t), blkBef t x = true := by
      intro x hx
      obtain ⟨k, hk⟩ := List.mem_iff_getElem?.1 hx
      rw [List.getElem?_drop] at hk
      exact cut_aft hs hk (by omega)
    rw [List.pairwise_append]
    refine ⟨hp.sublist (List.take_sublist _ _), List.pairwise_cons.2 ⟨h2, hp.sublist (List.drop_sublist _ _)⟩, ?_⟩
    intro x hx y hy
    rcases List.mem_cons.1 hy with h | h
    · rw [h]; exact h1 x hx
    · exact bef_trans (h1 x hx) (h2 y h)
theorem key_ne {x t : TBlock} : (∃ r : Bool, r = true ∧ sameKey x t) ∨ ¬ sameKey x t := by
  by_cases h : sameKey x t
  · exact .inl ⟨true, rfl, h⟩
  · exact .inr h
theorem l29Put_eq {A : List TBlock} (hs : Srt A) (hl : A.length ≤ 1000) (t : TBlock) : F_spec_l29Put A t = some (insB A t) := by
  have hc := cutB_le A t
  have hd := after_le A t
  unfold F_spec_l29Put
  obtain ⟨r, e, hr⟩ := loop_ex (body := F_spec_l29Put_l0 A t) (s0 := (false, 0, [])) (L := A) (Q := fun r => r = insB A t)
    (fun i s => s.2.1 = (i : Int) ∧ (i ≤ cutB A t → s.1 = false ∧ s.2.2 = A.take i) ∧ (cutB A t < i → s.1 = true ∧ s.2.2 = A.take (cutB A t) ++ t :: (A.take i).drop (afterB A t))) (by omega) ⟨rfl, fun _ => ⟨rfl, rfl⟩, fun h => by omega⟩
    (by
      rintro i ⟨b, _, O⟩ K a ha hi ⟨rfl, h1, h2⟩ hK
      dsimp only at h1 h2
      have hlt := get_lt ha
      have ha2 := ix_get ha
      have next1 : ∀ (b : Bool) (O : List TBlock), O.length ≤ 2000 → sameKey a t → F_spec_l29Put_j1 A t (i : Int) K b O = K (b, ((i + 1 : Nat) : Int), O) := by
        intro b O hO h
        simp only [F_spec_l29Put_j1, ha2, Option.bind_some, w64_succ hi, bif_dec]
        rw [if_neg (fun e => e h.1), if_neg (fun e => e h.2)]
      have next2 : ∀ (b : Bool) (O : List TBlock), O.length ≤ 2000 → ¬ sameKey a t → F_spec_l29Put_j1 A t (i : Int) K b O = K (b, ((i + 1 : Nat) : Int), O ++ [a]) := by
        intro b O hO h
        have hr : room (O.length + [a].length) 48 := room48 (by simp only [List.length_singleton]; omega)
        simp only [F_spec_l29Put_j1, ha2, Option.bind_some, need_true hr, w64_succ hi, bif_dec]
        by_cases e1 : a.1 = t.1
        · rw [if_neg (fun e => e e1), if_pos (fun e2 => h ⟨e1, e2⟩)]
        · rw [if_pos e1]
      simp only [F_spec_l29Put_l0, int_lt hlt, bif_t, ha2, Option.bind_some, l29Before_eq]
      rcases Nat.lt_trichotomy i (cutB A t) with hic | hic | hic
      · obtain ⟨rfl, rfl⟩ := h1 (by omega)
        have hb := cut_bef ha hic
        have hnk : ¬ sameKey a t := fun h => by rw [key_bef h, bef_irr] at hb; cases hb
        simp only [Bool.not_false, bif_t, hb, Bool.not_true, bif_f]
        rw [next2 _ _ (by rw [List.length_take]; omega) hnk]
        exact hK _ ⟨rfl, fun _ => ⟨rfl, (take_succ ha).symm⟩, fun h => by omega⟩
      · obtain ⟨rfl, rfl⟩ := h1 (by omega)
        have hb : blkBef a t = false := by
          subst hic
          cases h : blkBef a t
          · rfl
          · exact absurd ((bef_cmp a t).1 h) (cut_at (c := fun x => blkCmp x t) ha)
        have hr : room ((A.take i).length + [t].length) 48 := room48 (by simp only [List.length_take, List.length_singleton]; omega)
        simp only [Bool.not_false, bif_t, hb]
        rw [need_true hr]
        have hO : (A.take i ++ [t]).length ≤ 2000 := by simp only [List.length_append, List.length_take, List.length_singleton]; omega
        by_cases hk : sameKey a t
        · have hh : hasB A t = true := (has_at hs ha hk).2
          have hd2 : afterB A t = cutB A t + 1 := by unfold afterB; rw [if_pos hh]
          rw [next1 _ _ hO hk]
          refine hK _ ⟨rfl, fun h => by omega, fun _ => ⟨rfl, ?_⟩⟩
          dsimp only
          rw [hd2, ← hic, List.drop_eq_nil_of_le (by rw [List.length_take]; omega)]
        · have hh : hasB A t = false := by
            cases h : hasB A t
            · rfl
            · obtain ⟨x, hx, hk2⟩ := has_some h
              rw [← hic, ha] at hx; cases hx; exact absurd hk2 hk
          have hd2 : afterB A t = cutB A t := by unfold afterB; rw [hh]; rfl
          rw [next2 _ _ hO hk]
          refine hK _ ⟨rfl, fun h => by omega, fun _ => ⟨rfl, ?_⟩⟩
          dsimp only
          rw [hd2, ← hic, take_succ ha, List.drop_append_of_le_length (by rw [List.length_take]; omega), List.drop_eq_nil_of_le (by rw [List.length_take]; omega)]
          simp
      · obtain ⟨rfl, rfl⟩ := h2 hic
        have hb := cut_aft hs (t := t) ha (by omega)
        have hnk : ¬ sameKey a t := fun h => by rw [bef_key h, bef_irr] at hb; cases hb
        simp only [Bool.not_true, bif_f]
        rw [next2 _ _ (by simp only [List.length_append, List.length_cons, List.length_take, List.length_drop]; omega) hnk]
        refine hK _ ⟨rfl, fun h => by omega, fun _ => ⟨rfl, ?_⟩⟩
        dsimp only
        rw [take_succ ha, List.drop_append_of_le_length (by rw [List.length_take]; omega)]
        simp)
    (by
      rintro ⟨b, _, O⟩ K ⟨rfl, h1, h2⟩
      dsimp only at h1 h2
      simp only [F_spec_l29Put_l0, int_lt_self, bif_f]
      rcases Nat.lt_or_ge (cutB A t) A.length with hic | hic
      · obtain ⟨rfl, rfl⟩ := h2 hic
        simp only [Bool.not_true, bif_f]
        refine ⟨_, rfl, ?_⟩
        unfold insB
        rw [take_all (Nat.le_refl _)]
      · have hce : cutB A t = A.length := by omega
        obtain ⟨rfl, rfl⟩ := h1 (by omega)
        have hr : room ((A.take A.length).length + [t].length) 48 := room48 (by simp only [List.length_take, List.length_singleton]; omega)
        simp only [Bool.not_false, bif_t]
        rw [need_true hr]
        refine ⟨_, rfl, ?_⟩
        unfold insB
        rw [hce, take_all (Nat.le_refl _), List.drop_eq_nil_of_le (by omega)])
  rw [e, hr]
end Go.Ab
