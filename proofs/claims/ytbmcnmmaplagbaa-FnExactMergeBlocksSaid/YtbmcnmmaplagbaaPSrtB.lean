/- Valid blocks stand in order; searching them (own text). -/
import Derived.Test.YtbmcnmmaplagbaaPBlocks
import Derived.Test.YtbmcnmmaplagbaaPSearch
set_option linter.unusedVariables false
set_option linter.unusedSimpArgs false
namespace Go.Ab
open Go.RowKit
theorem adj_all {α : Type} {one : α → Bool} {bef : α → α → Bool} : ∀ {A : List α} {p : Option α}, adj one bef p A = true → (∀ x ∈ A, one x = true) ∧ (∀ (i : Nat) x y, A[i]? = some x → A[i + 1]? = some y → bef x y = true)
  | [], p, h => by simp
  | a :: A, p, h => by
    have h2 : one a = true ∧ adj one bef (some a) A = true := by
      cases p with
      | none => simpa [adj] using h
      | some q => simp [adj] at h; exact ⟨h.1, h.2.2⟩
    obtain ⟨k1, k2⟩ := adj_all (A := A) h2.2
    refine ⟨fun x hx => ?_, fun i x y hx hy => ?_⟩
    · rcases List.mem_cons.1 hx with h | h
      · rw [h]; exact h2.1
      · exact k1 x h
    · cases i with
      | zero =>
        simp at hx hy; subst hx
        cases A with
        | nil => simp at hy
        | cons b A =>
          simp at hy; subst hy
          have := h2.2
          simp [adj] at this; exact this.2.1
      | succ i => simp at hx hy; exact k2 i x y hx hy
theorem blkOk_len {A : List TBlock} (h : blksOk A = true) : A.length ≤ 32 ∧ adj blkOk blkBef none A = true := by
  unfold blksOk at h
  rw [Bool.and_eq_true] at h
  have := of_decide_eq_true h.2
  exact ⟨by omega, h.1⟩
theorem bef_irr (a : TBlock) : blkBef a a = false := by unfold blkBef; simp [bytes_irrefl]
theorem bef_trans {a b c : TBlock} (h : blkBef a b = true) (h' : blkBef b c = true) : blkBef a c = true := by
  unfold blkBef at *
  simp only [Bool.or_eq_true, Bool.and_eq_true, decide_eq_true_eq] at *
  rcases h with h | ⟨h1, h2⟩
  · rcases h' with h' | ⟨h3, h4⟩
    · exact .inl (bytes_trans h h')
    · rw [← h3]; exact .inl h
  · rcases h' with h' | ⟨h3, h4⟩
    · rw [h1]; exact .inl h'
    · exact .inr ⟨h1.trans h3, bytes_trans h2 h4⟩
theorem bef_cmp (a b : TBlock) : blkBef a b = true ↔ blkCmp a b < 0 := by
  have := blkCmp_bef a b
  cases h : blkBef a b
  · rw [h] at this
    have := of_decide_eq_true this
    constructor
    · intro h; cases h
    · intro h; omega
  · rw [h] at this
    have := of_decide_eq_false this
    constructor
    · intro _; omega
    · intro _; rfl
/-- The same kind and name. -/
def sameKey (a b : TBlock) : Prop := a.1 = b.1 ∧ a.2.1 = b.2.1
theorem cmp_key (a b : TBlock) : blkCmp a b = 0 ↔ sameKey a b := by
  unfold blkCmp sameKey
  by_cases h : a.1 = b.1
  · rw [if_pos ((cmpS_zero _ _).2 h), cmpS_zero]; simp [h]
  · rw [if_neg (fun e => h ((cmpS_zero _ _).1 e)), cmpS_zero]; simp [h]
theorem bef_key {a b c : TBlock} (h : sameKey b c) : blkBef a b = blkBef a c := by
  unfold blkBef; rw [h.1, h.2]
theorem key_bef {a b c : TBlock} (h : sameKey b c) : blkBef b a = blkBef c a := by
  unfold blkBef; rw [h.1, h.2]
structure Srt (A : List TBlock) : Prop where
  ok : ∀ x ∈ A, blkOk x = true
  srt : ∀ (i j : Nat) x y, i < j → A[i]? = some x → A[j]? = some y → blkBef x y = true
theorem srt_of {A : List TBlock} (h : ∀ (i : Nat) x y, A[i]? = some x → A[i + 1]? = some y → blkBef x y = true) : ∀ (d i : Nat) x y, A[i]? = some x → A[i + d + 1]? = some y → blkBef x y = true
  | 0, i, x, y, hx, hy => h i x y hx hy
  | d + 1, i, x, y, hx, hy => by
    obtain ⟨z, hz⟩ := get_some (L := A) (n := i + d + 1) (by have := get_lt hy; omega)
    exact bef_trans (srt_of h d i x z hx hz) (h _ z y hz hy)
theorem srt_ok {A : List TBlock} (h : blksOk A = true) : Srt A := by
  obtain ⟨h1, h2⟩ := adj_all (blkOk_len h).2
  refine ⟨h1, fun i j x y hij hx hy => ?_⟩
  exact srt_of h2 (j - i - 1) i x y hx (by rw [show i + (j - i - 1) + 1 = j by omega]; exact hy)
theorem srt_one {A : List TBlock} (h : Srt A) {i j : Nat} {x y : TBlock} (hx : A[i]? = some x) (hy : A[j]? = some y) (hk : sameKey x y) : i = j := by
  rcases Nat.lt_trichotomy i j with h1 | h1 | h1
  · have := h.srt i j x y h1 hx hy
    rw [← bef_key hk, bef_irr] at this; cases this
  · exact h1
  · have := h.srt j i y x h1 hy hx
    rw [bef_key hk, bef_irr] at this; cases this
/-- Where a block stands, or would. -/
def cutB (A : List TBlock) (t : TBlock) : Nat := cut (fun x => blkCmp x t) A
def hasB (A : List TBlock) (t : TBlock) : Bool := match A[cutB A t]? with
  | some x => decide (blkCmp x t = 0)
  | none => false
theorem search_eq {A : List TBlock} (h : Srt A) (hA : A.length ≤ 4611686018427387903) (t : TBlock) : F_slices_BinarySearchFunc_SBlock_Block A t = some ((cutB A t : Int), hasB A t) := by
  unfold F_slices_BinarySearchFunc_SBlock_Block
  refine loop_search (c := fun x => blkCmp x t) (fun n => ((n : Int), match A[n]? with
    | some x => decide (blkCmp x t = 0)
    | none => false)) hA ?_ ?_ ?_
  · intro i j x y hij hx hy hc
    exact (bef_cmp x t).1 (bef_trans (h.srt i j x y hij hx hy) ((bef_cmp y t).2 hc))
  · intro i j k x hij hj hx
    have hlt : decide ((i : Int) < (j : Int)) = true := decide_eq_true (by omega)
    have e : w64 ((((i + j) / 2 : Nat) : Int) + 1) = (((i + j) / 2 + 1 : Nat) : Int) := w64_succ (by omega)
    simp only [F_slices_BinarySearchFunc_SBlock_Block_l0, hlt, bif_t, need_true (show (0 : Int) ≤ 1 by omega), half_eq i j (by omega), ix_get hx, Option.bind_some, compareBlocks_eq, e]
  · intro i k hi
    simp only [F_slices_BinarySearchFunc_SBlock_Block_l0, Int.lt_irrefl, decide_false, bif_f]
    rcases Nat.lt_or_ge i A.length with h1 | h1
    · obtain ⟨x, hx⟩ := get_some (L := A) (n := i) h1
      simp only [int_lt h1, bif_t, ix_get hx, Option.bind_some, compareBlocks_eq, hx]
    · have : A[i]? = none := List.getElem?_eq_none h1
      have hn : decide ((i : Int) < (A.length : Int)) = false := decide_eq_false (by omega)
      simp only [hn, bif_f, this]
theorem cutB_le (A : List TBlock) (t : TBlock) : cutB A t ≤ A.length := cut_le _ _
theorem has_some {A : List TBlock} {t : TBlock} (h : hasB A t = true) : ∃ x, A[cutB A t]? = some x ∧ sameKey x t := by
  unfold hasB at h
  split at h
  · rename_i x hx
    exact ⟨x, hx, (cmp_key x t).1 (of_decide_eq_true h)⟩
  · cases h
theorem has_at {A : List TBlock} (hs : Srt A) {t : TBlock} {i : Nat} {x : TBlock} (hx : A[i]? = some x) (hk : sameKey x t) : i = cutB A t ∧ hasB A t = true := by
  have h0 := (cmp_key x t).2 hk
  have e : i = cutB A t := by
    rcases Nat.lt_trichotomy i (cutB A t) with h1 | h1 | h1
    · have := cut_lt (c := fun x => blkCmp x t) hx h1
      omega
    · exact h1
    · exfalso
      obtain ⟨y, hy⟩ := get_some (L := A) (n := cutB A t) (by have := get_lt hx; omega)
      have := cut_at (c := fun x => blkCmp x t) hy
      have h2 := hs.srt _ _ y x h1 hy hx
      rw [bef_key hk] at h2
      exact this ((bef_cmp y t).1 h2)
  refine ⟨e, ?_⟩
  unfold hasB
  rw [← e, hx]
  exact decide_eq_true h0
end Go.Ab
