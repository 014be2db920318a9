/- Marks beside valid persons (own text). -/
import Derived.Test.YtbmcnmmaplagbaaPPersons
set_option linter.unusedVariables false
set_option linter.unusedSimpArgs false
namespace Go.Ab
open Go.RowKit

theorem name_at : ∀ {A : List TPerson} {t : List UInt8} {q : TPerson}, ix A (atP A t) = some q → q.1 = t
  | [], t, q, h => by simp [atP, ix] at h
  | p :: A, t, q, h => by
    unfold atP at h
    by_cases h1 : p.1 = t
    · rw [if_pos h1] at h
      simp [ix] at h
      rw [← h]; exact h1
    · rw [if_neg h1] at h
      by_cases h2 : atP A t < 0
      · rw [if_pos h2] at h; simp [ix] at h
      · rw [if_neg h2] at h
        have h3 : (atP A t + 1).toNat = (atP A t).toNat + 1 := by omega
        simp only [ix, show (0 : Int) ≤ atP A t + 1 by omega, if_true, h3, List.getElem?_cons_succ] at h
        exact name_at (A := A) (t := t) (by unfold ix; rw [if_pos (by omega)]; exact h)
theorem at_pos {A : List TPerson} {t : List UInt8} (h : 0 ≤ atP A t) : ∃ q, A[(atP A t).toNat]? = some q ∧ ix A (atP A t) = some q ∧ q.1 = t := by
  have := atP_lt A t
  obtain ⟨q, hq⟩ := get_some (L := A) (n := (atP A t).toNat) (by omega)
  have h2 : ix A (atP A t) = some q := by unfold ix; rw [if_pos h]; exact hq
  exact ⟨q, hq, h2, name_at h2⟩
/-- Names stand in order: no two are alike. -/
theorem srt_lt {A : List TPerson} (hs : ∀ (j : Nat) x y, A[j]? = some x → A[j + 1]? = some y → Op.bytesLess x.1 y.1 = true) : ∀ (d i : Nat) x y, A[i]? = some x → A[i + d + 1]? = some y → Op.bytesLess x.1 y.1 = true
  | 0, i, x, y, hx, hy => hs i x y hx hy
  | d + 1, i, x, y, hx, hy => by
    obtain ⟨z, hz⟩ := get_some (L := A) (n := i + d + 1) (by have := get_lt hy; omega)
    exact bytes_trans (srt_lt hs d i x z hx hz) (hs _ z y hz hy)
theorem same_name {A : List TPerson} (hs : ∀ (j : Nat) x y, A[j]? = some x → A[j + 1]? = some y → Op.bytesLess x.1 y.1 = true) {i j : Nat} {x y : TPerson} (hx : A[i]? = some x) (hy : A[j]? = some y) (h : x.1 = y.1) : i = j := by
  rcases Nat.lt_trichotomy i j with h1 | h1 | h1
  · have := srt_lt hs (j - i - 1) i x y hx (by rw [show i + (j - i - 1) + 1 = j by omega]; exact hy)
    rw [h, bytes_irrefl] at this; cases this
  · exact h1
  · have := srt_lt hs (i - j - 1) j y x hy (by rw [show j + (i - j - 1) + 1 = i by omega]; exact hx)
    rw [h, bytes_irrefl] at this; cases this
theorem at_self {A : List TPerson} (hV : VP A) {i : Nat} {a : TPerson} (h : A[i]? = some a) : atP A a.1 = (i : Int) := by
  have h0 : 0 ≤ atP A a.1 := by
    have key : ∀ (A : List TPerson), a ∈ A → 0 ≤ atP A a.1 := by
      intro A
      induction A with
      | nil => intro h; simp at h
      | cons p A ih =>
        intro h
        simp only [atP]
        split
        · omega
        · rename_i hne
          rcases List.mem_cons.1 h with h | h
          · exact absurd (by rw [h]) hne
          · have := ih h
            rw [if_neg (by omega)]; omega
    exact key A (get_mem h)
  obtain ⟨q, hq, _, hn⟩ := at_pos h0
  have := same_name hV.srt hq h hn
  omega
/-- A mark for each person. -/
def Flags (A : List TPerson) (U : List Bool) (g : TPerson → Bool) : Prop := U.length = A.length ∧ ∀ (k : Nat) a, A[k]? = some a → U[k]? = some (g a)
theorem flags_congr {A : List TPerson} {U : List Bool} {g g' : TPerson → Bool} (h : Flags A U g) (he : ∀ a ∈ A, g a = g' a) : Flags A U g' :=
  ⟨h.1, fun k a ha => by rw [h.2 k a ha, he a (get_mem ha)]⟩
theorem flags_new (A : List TPerson) (b : Bool) : Flags A (List.replicate A.length b) (fun _ => b) :=
  ⟨by simp, fun k a ha => by rw [List.getElem?_replicate, if_pos (get_lt ha)]⟩
theorem flags_ix {A : List TPerson} {U : List Bool} {g : TPerson → Bool} (h : Flags A U g) {k : Nat} {a : TPerson} (ha : A[k]? = some a) : ix U (k : Int) = some (g a) := ix_get (h.2 k a ha)
theorem flags_at {A : List TPerson} {U : List Bool} {g : TPerson → Bool} (h : Flags A U g) {n : Int} {a : TPerson} (ha : ix A n = some a) : ix U n = some (g a) := by
  obtain ⟨h1, h2⟩ := ix_some ha
  unfold ix; rw [if_pos h1]; exact h.2 _ a h2
theorem flags_set {A : List TPerson} (hV : VP A) {U : List Bool} {g : TPerson → Bool} (h : Flags A U g) {k : Nat} {p : TPerson} (hp : A[k]? = some p) (b : Bool) : Flags A (U.set k b) (fun a => if a.1 = p.1 then b else g a) := by
  refine ⟨by rw [List.length_set]; exact h.1, fun j a ha => ?_⟩
  by_cases e : j = k
  · subst e
    rw [hp] at ha; cases ha
    rw [List.getElem?_set_self (by rw [h.1]; exact get_lt hp)]
    simp
  · rw [List.getElem?_set_ne (fun h => e h.symm), h.2 j a ha]
    have hn : ¬ a.1 = p.1 := fun hn => e (same_name hV.srt ha hp hn)
    simp [hn]
theorem flags_set_at {A : List TPerson} (hV : VP A) {U : List Bool} {g : TPerson → Bool} (h : Flags A U g) {t : List UInt8} (ht : 0 ≤ atP A t) (b : Bool) : Flags A (U.set (atP A t).toNat b) (fun a => if a.1 = t then b else g a) := by
  obtain ⟨q, hq, _, hn⟩ := at_pos ht
  have := flags_set hV h hq b
  rw [hn] at this; exact this
theorem filter_snoc {α : Type} {L : List α} {i : Nat} {a : α} (g : α → Bool) (h : L[i]? = some a) : (L.take (i + 1)).filter g = (L.take i).filter g ++ (if g a = true then [a] else []) := by
  rw [take_succ h, List.filter_append]
  congr 1
  cases hg : g a <;> simp [hg]
theorem filter_room {α : Type} {L : List α} {i : Nat} {g : α → Bool} (h : L.length ≤ 24) : ((L.take i).filter g).length ≤ 24 := by
  have h1 : ((L.take i).filter g).length ≤ (L.take i).length := List.length_filter_le _ _
  have h2 : (L.take i).length ≤ L.length := by rw [List.length_take]; omega
  omega
theorem l30Names_eq {A : List TPerson} (hV : VP A) {U : List Bool} {g : TPerson → Bool} (h : Flags A U g) : F_spec_l30Names A U = some ((A.filter g).map (·.1)) := by
  have hl := hV.len
  unfold F_spec_l30Names
  obtain ⟨r, e, hr⟩ := loop_ex (body := F_spec_l30Names_l0 A U) (s0 := (0, [])) (Q := fun r => r = (A.filter g).map (·.1)) (L := A)
    (fun i s => s.1 = (i : Int) ∧ s.2 = ((A.take i).filter g).map (·.1)) (by omega) ⟨rfl, rfl⟩
    (by
      rintro i ⟨j, B⟩ k a ha hi ⟨rfl, hB⟩ hk
      dsimp only at hB
      have hn := filter_snoc g ha
      have hr := filter_room (L := A) (i := i) (g := g) hl
      simp only [F_spec_l30Names_l0, int_lt (get_lt ha), bif_t, ix_get ha, flags_ix h ha, Option.bind_some, w64_succ hi]
      cases hg : g a
      · simp only [hg, Bool.false_eq_true, if_false, List.append_nil] at hn
        exact hk (((i + 1 : Nat) : Int), B) ⟨rfl, by rw [hB, hn]⟩
      · simp only [hg, if_true] at hn
        have hroom : room (B.length + [a.1].length) 16 := by rw [hB]; constructor <;> simp only [List.length_map, List.length_singleton] <;> omega
        rw [bif_t, need_true hroom]
        exact hk (((i + 1 : Nat) : Int), B ++ [a.1]) ⟨rfl, by rw [hB, hn]; simp⟩)
    (by
      rintro ⟨j, B⟩ k ⟨rfl, hB⟩
      refine ⟨B, by simp [F_spec_l30Names_l0], ?_⟩
      dsimp only at hB
      rw [hB, take_all (Nat.le_refl _)])
  rw [e, hr]
/-- slices.Index, slices.Contains of names. -/
theorem Index_eq (L : List (List UInt8)) (n : List UInt8) (hL : L.length ≤ 9223372036854775807) : ∃ r, F_slices_Index_Sstring_string L n = some r ∧ (0 ≤ r ↔ n ∈ L) := by
  unfold F_slices_Index_Sstring_string
  refine loop_ex (L := L) (fun i s => s = (i : Int) ∧ ∀ x ∈ L.take i, x ≠ n) hL ⟨rfl, by simp⟩ ?_ ?_
  · rintro i _ k a ha hi ⟨rfl, hI⟩ hk
    simp only [F_slices_Index_Sstring_string_l0, int_lt (get_lt ha), bif_t, ix_get ha, Option.bind_some, w64_succ hi, bif_dec]
    split
    · rename_i h
      exact ⟨_, rfl, fun _ => by rw [h]; exact get_mem ha, fun _ => by omega⟩
    · rename_i h
      refine hk _ ⟨rfl, fun x hx => ?_⟩
      rw [take_succ ha] at hx
      rcases List.mem_append.1 hx with hx | hx
      · exact hI x hx
      · rw [List.mem_singleton.1 hx]; exact fun e => h e.symm
  · rintro _ k ⟨rfl, hI⟩
    rw [take_all (Nat.le_refl _)] at hI
    simp only [F_slices_Index_Sstring_string_l0, int_lt_self, bif_f]
    exact ⟨_, rfl, fun h => by omega, fun h => absurd rfl (hI n h)⟩
theorem Contains_eq (L : List (List UInt8)) (n : List UInt8) (hL : L.length ≤ 9223372036854775807) : F_slices_Contains_Sstring_string L n = some (decide (n ∈ L)) := by
  obtain ⟨r, h1, h2⟩ := Index_eq L n hL
  unfold F_slices_Contains_Sstring_string
  rw [h1]
  simp only [Option.bind_some, h2]
end Go.Ab
