/- Lists of names in order, without doubles (own text). -/
import Derived.Test.YtbmcnmmaplagbaaPS
import Derived.Test.YtbmcnmmaplagbaaPL
import Derived.Sort.Walk0
set_option linter.unusedVariables false
set_option linter.unusedSimpArgs false
namespace Go.Ab
open Go.RowKit
abbrev Str := List UInt8
def srtS (L : List Str) : Prop := List.Pairwise (fun x y : Str => x < y) L
theorem lt_ne {x y : Str} (h : x < y) : x ≠ y := fun e => by subst e; exact List.lt_irrefl _ h
theorem lt_of_le {x y : Str} (h : ¬ y < x) (hn : y ≠ x) : x < y := by
  rcases List.le_total x y with h1 | h1
  · refine Classical.byContradiction fun h2 => hn ?_
    exact List.le_antisymm (List.not_lt.1 h2) (List.not_lt.1 h)
  · refine Classical.byContradiction fun h2 => hn ?_
    exact List.le_antisymm h1 (List.not_lt.1 h)
theorem srt_uniq {L M : List Str} (hL : srtS L) (hM : srtS M) (h : ∀ x, x ∈ L ↔ x ∈ M) : L = M := by
  have hp : L.Perm M := (List.perm_ext_iff_of_nodup (hL.imp fun h => lt_ne h) (hM.imp fun h => lt_ne h)).2 h
  exact List.Perm.eq_of_pairwise (le := fun x y => x < y) (fun a b _ _ h1 h2 => absurd (List.lt_trans h1 h2) (List.lt_irrefl _)) hL hM hp
theorem srt_snoc {L : List Str} {x : Str} (h : srtS L) (hx : ∀ y ∈ L, y < x) : srtS (L ++ [x]) := by
  unfold srtS
  rw [List.pairwise_append]
  exact ⟨h, by simp, fun a ha b hb => by rw [List.mem_singleton.1 hb]; exact hx a ha⟩
theorem less_eq (x y : Str) : Op.bytesLess x y = decide (x < y) := Go.Proofs.bytesLess_eq x y
/-- One put in its place. -/
theorem put_ex {L : List Str} (hL : srtS L) (x : Str) (hl : L.length ≤ 1000000) : ∃ R, F_spec_l28Put L x = some R ∧ srtS R ∧ ∀ y, y ∈ R ↔ y ∈ L ∨ y = x := by
  unfold F_spec_l28Put
  refine loop_ex (L := L) (fun i s => s.2.1 = (i : Int) ∧ srtS s.2.2 ∧ s.2.2.length ≤ i + 1 ∧ (s.1 = false → s.2.2 = L.take i ∧ ∀ y ∈ L.take i, y < x) ∧ (s.1 = true → (∀ y, y ∈ s.2.2 ↔ y ∈ L.take i ∨ y = x) ∧ ∀ y ∈ L.drop i, x < y)) (by omega) ⟨rfl, List.Pairwise.nil, by simp, fun _ => by simp, fun h => by cases h⟩ ?_ ?_
  · rintro i ⟨b, _, O⟩ K a ha hi ⟨rfl, h1, h2, h3, h4⟩ hK
    dsimp only at h1 h2 h3 h4
    have hlt := get_lt ha
    have hal : ∀ y ∈ L.take i, y < a := by
      intro y hy
      obtain ⟨j, hj⟩ := List.mem_iff_getElem?.1 hy
      rw [List.getElem?_take] at hj
      split at hj
      · rename_i hji
        have hjl := get_lt hj
        have := List.pairwise_iff_getElem.1 hL j i hjl hlt hji
        rw [List.getElem?_eq_getElem hjl] at hj
        rw [List.getElem?_eq_getElem hlt] at ha
        cases hj; cases ha; exact this
      · cases hj
    have had : ∀ y ∈ L.drop (i + 1), a < y := by
      intro y hy
      obtain ⟨j, hj⟩ := List.mem_iff_getElem?.1 hy
      rw [List.getElem?_drop] at hj
      have hjl := get_lt hj
      have := List.pairwise_iff_getElem.1 hL i (i + 1 + j) hlt hjl (by omega)
      rw [List.getElem?_eq_getElem hjl] at hj
      rw [List.getElem?_eq_getElem hlt] at ha
      cases hj; cases ha; exact this
    have hr1 : room (O.length + [x].length) 16 := by constructor <;> simp only [List.length_singleton] <;> omega
    have hr2 : ∀ O' : List Str, O'.length ≤ O.length + 1 → room (O'.length + [a].length) 16 := fun O' h => by constructor <;> simp only [List.length_singleton] <;> omega
    have hr3 : room (O.length + [a].length) 16 := hr2 O (by omega)
    have ha2 := ix_get ha
    simp only [F_spec_l28Put_l0, int_lt hlt, bif_t, ha2, Option.bind_some]
    have hmem : ∀ y, y ∈ L.take (i + 1) ↔ y ∈ L.take i ∨ y = a := fun y => by rw [take_succ ha, List.mem_append, List.mem_singleton]
    cases b with
    | false =>
      obtain ⟨rfl, h5⟩ := h3 rfl
      simp only [Bool.not_false, bif_t, less_eq]
      by_cases hx : a < x
      · rw [decide_eq_true hx]
        simp only [Bool.not_true, bif_f, F_spec_l28Put_j1, ha2, Option.bind_some, decide_eq_true (lt_ne hx), bif_t]
        rw [need_true hr3, w64_succ hi]
        refine hK _ ⟨rfl, srt_snoc h1 hal, by simp only [List.length_append, List.length_singleton]; omega, fun _ => ⟨(take_succ ha).symm, fun y hy => ?_⟩, fun h => by cases h⟩
        rcases (hmem y).1 hy with h | h
        · exact h5 y h
        · rw [h]; exact hx
      · rw [decide_eq_false hx]
        simp only [Bool.not_false, bif_t]
        rw [need_true hr1]
        simp only [F_spec_l28Put_j1, ha2, Option.bind_some]
        by_cases he : a = x
        · rw [decide_eq_false (by simpa using he), bif_f, w64_succ hi]
          refine hK _ ⟨rfl, srt_snoc h1 h5, by simp only [List.length_append, List.length_singleton]; omega, fun h => by (simp at h), fun _ => ⟨fun y => ?_, ?_⟩⟩
          · rw [hmem, List.mem_append, List.mem_singleton, he]
            constructor
            · rintro (h | h)
              · exact .inl (.inl h)
              · exact .inr h
            · rintro ((h | h) | h)
              · exact .inl h
              · exact .inr h
              · exact .inr h
          · rw [← he]; exact had
        · have hxa : x < a := lt_of_le hx he
          rw [decide_eq_true he, bif_t, need_true (hr2 _ (by simp only [List.length_append, List.length_singleton]; omega)), w64_succ hi]
          refine hK _ ⟨rfl, srt_snoc (srt_snoc h1 h5) ?_, ?_, fun h => by (simp at h), fun _ => ⟨fun y => ?_, fun y hy => List.lt_trans hxa (had y hy)⟩⟩
          · intro y hy
            rcases List.mem_append.1 hy with h | h
            · exact hal y h
            · rw [List.mem_singleton.1 h]; exact hxa
          · have : (L.take i).length ≤ i := by rw [List.length_take]; omega
            simp only [List.length_append, List.length_singleton]; omega
          · rw [hmem, List.mem_append, List.mem_append, List.mem_singleton, List.mem_singleton]
            constructor
            · rintro ((h | h) | h)
              · exact .inl (.inl h)
              · exact .inr h
              · exact .inl (.inr h)
            · rintro ((h | h) | h)
              · exact .inl (.inl h)
              · exact .inr h
              · exact .inl (.inr h)
    | true =>
      obtain ⟨h5, h6⟩ := h4 rfl
      have hxa : x < a := h6 a (by rw [drop_cons ha]; exact List.mem_cons_self)
      simp only [Bool.not_true, bif_f, F_spec_l28Put_j1, ha2, Option.bind_some]
      rw [decide_eq_true (show a ≠ x from fun e => lt_ne hxa e.symm), bif_t, need_true hr3, w64_succ hi]
      refine hK (true, ((i + 1 : Nat) : Int), O ++ [a]) ⟨rfl, srt_snoc h1 ?_, by simp only [List.length_append, List.length_singleton]; omega, fun h => by (simp at h), fun _ => ⟨fun y => ?_, fun y hy => List.lt_trans hxa (had y hy)⟩⟩
      · intro y hy
        rcases (h5 y).1 hy with h | h
        · exact hal y h
        · rw [h]; exact hxa
      · rw [hmem, List.mem_append, List.mem_singleton, h5]
        constructor
        · rintro ((h | h) | h)
          · exact .inl (.inl h)
          · exact .inr h
          · exact .inl (.inr h)
        · rintro ((h | h) | h)
          · exact .inl (.inl h)
          · exact .inr h
          · exact .inl (.inr h)
  · rintro ⟨b, _, O⟩ K ⟨rfl, h1, h2, h3, h4⟩
    dsimp only at h1 h2 h3 h4
    have hr1 : room (O.length + [x].length) 16 := by constructor <;> simp only [List.length_singleton] <;> omega
    simp only [F_spec_l28Put_l0, int_lt_self, bif_f]
    rw [take_all (Nat.le_refl _)] at h3 h4
    cases b with
    | false =>
      obtain ⟨rfl, h5⟩ := h3 rfl
      simp only [Bool.not_false, bif_t]
      rw [need_true hr1]
      exact ⟨_, rfl, srt_snoc h1 h5, fun y => by rw [List.mem_append, List.mem_singleton]⟩
    | true =>
      simp only [Bool.not_true, bif_f]
      exact ⟨_, rfl, h1, (h4 rfl).1⟩
theorem arr_at {S : List Str} {m : Nat} {a : Str} (h : S[m]? = some a) : S.toArray[m]! = a := by
  have hl := get_lt h
  rw [List.getElem?_eq_getElem hl] at h
  cases h
  simp [hl]
/-- Sorted, then without doubles. -/
theorem compact_srt {S : List Str} (hS : List.Pairwise (fun x y : Str => x ≤ y) S) : ∀ m, m ≤ S.length → srtS (Go.Lib.compactUpTo S.toArray m) ∧ (∀ y, y ∈ Go.Lib.compactUpTo S.toArray m ↔ y ∈ S.take m)
  | 0, _ => ⟨List.Pairwise.nil, fun y => by simp [Go.Lib.compactUpTo]⟩
  | m + 1, hm => by
    obtain ⟨h1, h2⟩ := compact_srt hS m (by omega)
    obtain ⟨a, ha⟩ := get_some (L := S) (n := m) (by omega)
    rw [Go.Lib.compactUpTo_succ, arr_at ha]
    have hmem : ∀ y, y ∈ S.take (m + 1) ↔ y ∈ S.take m ∨ y = a := fun y => by rw [take_succ ha, List.mem_append, List.mem_singleton]
    have hle : ∀ (i j : Nat) x y, i < j → S[i]? = some x → S[j]? = some y → x ≤ y := by
      intro i j x y hij hx hy
      have h3 := get_lt hx
      have h4 := get_lt hy
      have := List.pairwise_iff_getElem.1 hS i j h3 h4 hij
      rw [List.getElem?_eq_getElem h3] at hx
      rw [List.getElem?_eq_getElem h4] at hy
      cases hx; cases hy; exact this
    by_cases hk : Go.Lib.keeps S.toArray m = true
    · rw [if_pos hk]
      refine ⟨srt_snoc h1 ?_, fun y => by rw [List.mem_append, List.mem_singleton, h2, hmem]⟩
      intro y hy
      rw [h2] at hy
      obtain ⟨j, hj⟩ := List.mem_iff_getElem?.1 hy
      rw [List.getElem?_take] at hj
      split at hj
      · rename_i hjm
        have h0 : m ≠ 0 := by omega
        obtain ⟨b, hb⟩ := get_some (L := S) (n := m - 1) (by omega)
        have hne : a ≠ b := by
          have := of_decide_eq_true hk
          rcases this with h | h
          · exact absurd h h0
          · rw [arr_at ha, arr_at hb] at h; exact h
        have hba : b < a := lt_of_le (List.not_lt.2 (hle (m - 1) m b a (by omega) hb ha)) hne
        by_cases e : j = m - 1
        · subst e; rw [hb] at hj; cases hj; exact hba
        · have hyb := hle j (m - 1) y b (by omega) hj hb
          by_cases e2 : y = b
          · rw [e2]; exact hba
          · exact List.lt_trans (lt_of_le (List.not_lt.2 hyb) (fun e => e2 e.symm)) hba
      · cases hj
    · rw [if_neg hk, List.append_nil]
      refine ⟨h1, fun y => ?_⟩
      rw [h2, hmem]
      constructor
      · exact .inl
      · rintro (h | h)
        · exact h
        · have h0 : m ≠ 0 := fun e => hk (by simp [Go.Lib.keeps, e])
          obtain ⟨b, hb⟩ := get_some (L := S) (n := m - 1) (by omega)
          have : a = b := by
            refine Classical.byContradiction fun hne => hk ?_
            refine decide_eq_true (.inr ?_)
            rw [arr_at ha, arr_at hb]; exact hne
          rw [h, this]
          refine List.mem_iff_getElem?.2 ⟨m - 1, ?_⟩
          rw [List.getElem?_take, if_pos (by omega)]; exact hb
theorem sc_ex {β : Type} (L : List Str) (hl : L.length ≤ 1000000) (F : List Str → Option β) : ∃ R, ((F_sortS L).bind fun v => need (v.length = L.length) ((F_compactS v).bind F)) = F R ∧ srtS R ∧ (∀ y, y ∈ R ↔ y ∈ L) := by
  unfold F_sortS
  rw [need_true (by omega), Option.bind_some]
  generalize hS : L.mergeSort _ = S
  have hp : S.Perm L := hS ▸ List.mergeSort_perm _ _
  have hpw : List.Pairwise (fun x y : Str => x ≤ y) S := by
    rw [← hS]
    refine (List.pairwise_mergeSort ?_ ?_ L).imp fun h => of_decide_eq_true h
    · intro a b c h1 h2
      exact decide_eq_true (List.le_trans (of_decide_eq_true h1) (of_decide_eq_true h2))
    · intro a b
      rcases List.le_total a b with h | h
      · simp [h]
      · simp [h]
  have hlen := hp.length_eq
  obtain ⟨h1, h2⟩ := compact_srt hpw _ (Nat.le_refl _)
  refine ⟨_, ?_, h1, fun y => ?_⟩
  · unfold F_compactS
    rw [need_true hlen, need_true (by omega), Option.bind_some]
  · rw [h2, take_all (Nat.le_refl _)]
    exact hp.mem_iff
/-- A loop that collects what passes a test; the end once. -/
theorem loop_coll {α β R : Type} {A : List α} (g : α → Bool) (f : α → β) {r : R} {body : (Int × List β → Option R) → Int × List β → Option R} (hA : A.length ≤ 9223372036854775807)
    (more : ∀ (i : Nat) (B : List β) k a, A[i]? = some a → i < 9223372036854775807 → B.length ≤ i → i < A.length → body k ((i : Int), B) = bif g a then k (((i + 1 : Nat) : Int), B ++ [f a]) else k (((i + 1 : Nat) : Int), B))
    (done : ∀ k, body k ((A.length : Int), (A.filter g).map f) = some r) : loop body (0, []) = some r := by
  obtain ⟨q, e, hq⟩ := loop_ex (body := body) (s0 := ((0 : Int), ([] : List β))) (Q := fun q => q = r) (L := A)
    (fun i s => s.1 = (i : Int) ∧ s.2 = ((A.take i).filter g).map f) hA ⟨rfl, rfl⟩
    (by
      rintro i ⟨j, B⟩ k a ha hi ⟨rfl, hB⟩ hk
      dsimp only at hB
      have hl : B.length ≤ i := by
        rw [hB, List.length_map]
        have h1 : ((A.take i).filter g).length ≤ (A.take i).length := List.length_filter_le _ _
        have h2 : (A.take i).length ≤ i := by rw [List.length_take]; omega
        omega
      have hn : (A.take (i + 1)).filter g = (A.take i).filter g ++ (if g a = true then [a] else []) := by
        rw [take_succ ha, List.filter_append]
        congr 1
        cases hg : g a <;> simp [hg]
      rw [more i B k a ha hi hl (get_lt ha)]
      cases hg : g a
      · simp only [hg, Bool.false_eq_true, if_false, List.append_nil] at hn
        exact hk _ ⟨rfl, by rw [hB, hn]⟩
      · simp only [hg, if_true] at hn
        exact hk _ ⟨rfl, by rw [hB, hn]; simp⟩)
    (by
      rintro ⟨j, B⟩ k ⟨rfl, hB⟩
      dsimp only at hB
      rw [take_all (Nat.le_refl _)] at hB
      subst hB
      exact ⟨_, done k, rfl⟩)
  rw [e, hq]
end Go.Ab
