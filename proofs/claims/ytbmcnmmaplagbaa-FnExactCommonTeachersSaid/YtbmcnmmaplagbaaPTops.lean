/- The teachers above: the program's and the reference's (own text). -/
import Derived.Test.YtbmcnmmaplagbaaPUp
import Derived.Sort.Walk0
set_option linter.unusedVariables false
set_option linter.unusedSimpArgs false
namespace Go.Ab
open Go.RowKit
/-- Names in order. -/
theorem names_srt {A : List TPerson} (hV : VP A) (g : TPerson → Bool) : List.Pairwise (fun x y : List UInt8 => x < y) ((A.filter g).map (·.1)) := by
  rw [List.pairwise_map]
  refine List.Pairwise.filter g ?_
  rw [List.pairwise_iff_getElem]
  intro i j hi hj hij
  have := srt_lt hV.srt (j - i - 1) i A[i] A[j] (List.getElem?_eq_getElem hi) (by rw [show i + (j - i - 1) + 1 = j by omega]; exact List.getElem?_eq_getElem hj)
  rw [Go.Proofs.bytesLess_eq] at this
  exact of_decide_eq_true this
/-- Sorting the names found gives the reference's list. -/
theorem sort_names {A : List TPerson} (hV : VP A) {g : TPerson → Bool} {L : List (List UInt8)} (hd : L.Nodup) (hL : ∀ t, t ∈ L ↔ ∃ x ∈ A, g x = true ∧ x.1 = t) : F_sortS L = some ((A.filter g).map (·.1)) ∧ ((A.filter g).map (·.1)).length = L.length := by
  have hs := names_srt hV g
  have hp : L.Perm ((A.filter g).map (·.1)) := by
    rw [List.perm_ext_iff_of_nodup hd]
    · intro t
      rw [hL t, List.mem_map]
      constructor
      · rintro ⟨x, hx, hg, e⟩; exact ⟨x, List.mem_filter.2 ⟨hx, hg⟩, e⟩
      · rintro ⟨x, hx, e⟩; obtain ⟨h1, h2⟩ := List.mem_filter.1 hx; exact ⟨x, h1, h2, e⟩
    · exact hs.imp fun {a b} h e => by subst e; exact List.lt_irrefl _ h
  have hlen := hp.length_eq
  refine ⟨?_, hlen.symm⟩
  have hl := hV.len
  have hf : ((A.filter g).map (·.1)).length ≤ A.length := by rw [List.length_map]; exact List.length_filter_le _ _
  unfold F_sortS
  rw [need_true (by omega)]
  congr 1
  refine List.Perm.eq_of_pairwise (le := fun x y => x ≤ y) (fun a b _ _ h1 h2 => List.le_antisymm h1 h2) ?_ (hs.imp fun h => List.le_of_lt h) ((List.mergeSort_perm _ _).trans hp)
  refine (List.pairwise_mergeSort ?_ ?_ L).imp fun h => of_decide_eq_true h
  · intro a b c h1 h2
    exact decide_eq_true (List.le_trans (of_decide_eq_true h1) (of_decide_eq_true h2))
  · intro a b
    rcases List.le_total a b with h | h
    · simp [h]
    · simp [h]
theorem teachers_impl {A : List TPerson} (hA : OkPersons A) (hV : VP A) {n : List UInt8} (hn : 0 ≤ atP A n) : F_impl_teachersOf A n = some ((A.filter (anc A n)).map (·.1)) := by
  have hl := hV.len
  have nodup_le : ∀ L : List (List UInt8), L.Nodup → (∀ t ∈ L, Anc A n t) → L.length ≤ A.length := by
    intro L hd h
    have := hd.length_le_of_subset (l₂ := A.map (·.1)) (fun t ht => by
      obtain ⟨q, hq, _, e⟩ := at_pos ((h t ht).at hV)
      exact List.mem_map.2 ⟨q, get_mem hq, e⟩)
    simpa using this
  unfold F_impl_teachersOf
  have key : ∃ r, loop (F_impl_teachersOf_l0 A) ([], [n]) = some r ∧ r = (A.filter (anc A n)).map (·.1) := by
    refine loop_mu (fun s => s.1.Nodup ∧ (∀ t ∈ s.1, Anc A n t) ∧ s.2.length ≤ s.1.length + 1 ∧ (∀ m ∈ s.2, m = n ∨ m ∈ s.1) ∧ ∀ m, (m = n ∨ m ∈ s.1) → m ∈ s.2 ∨ ∀ q ∈ A, q.1 = m → ∀ t ∈ q.2.2, t ∈ s.1) (fun s => A.length - s.1.length + s.2.length) ⟨List.nodup_nil, by simp, by simp, by simp, ?_⟩ (lt_lim (by simp; omega)) ?_
    · rintro m (h | h)
      · subst h; simp
      · simp at h
    · rintro ⟨N, W⟩ K ⟨hd, hs, hw, hin, hcl⟩ hK
      dsimp only at hd hs hw hin hcl hK
      have hNl := nodup_le N hd hs
      cases W with
      | nil =>
        simp only [F_impl_teachersOf_l0]
        have hall : ∀ k t, UpN A n (k + 1) t → t ∈ N := by
          intro k
          induction k with
          | zero =>
            rintro t ⟨q, hq, hu, ht⟩
            rcases hcl q.1 (.inl hu) with h | h
            · simp at h
            · exact h q hq rfl t ht
          | succ k ih =>
            rintro t ⟨q, hq, hu, ht⟩
            rcases hcl q.1 (.inr (ih _ hu)) with h | h
            · simp at h
            · exact h q hq rfl t ht
        obtain ⟨e1, e2⟩ := sort_names hV (g := anc A n) hd (fun t => by
          constructor
          · intro ht
            have ha := hs t ht
            obtain ⟨q, hq, _, e⟩ := at_pos (ha.at hV)
            exact ⟨q, get_mem hq, anc_iff.2 (by rw [e]; exact ha), e⟩
          · rintro ⟨x, hx, hg, rfl⟩
            obtain ⟨k, hk⟩ := anc_iff.1 hg
            exact hall k _ hk)
        simp only [List.length_nil, Int.ofNat_zero, Int.lt_irrefl, decide_false, bif_f, e1, Option.bind_some]
        rw [need_true e2]
        exact ⟨_, rfl, rfl⟩
      | cons m W =>
        have hm : 0 ≤ atP A m := by
          rcases hin m (by simp) with h | h
          · rw [h]; exact hn
          · exact (hs m h).at hV
        obtain ⟨q, hq, hqi, hqn⟩ := at_pos hm
        have hqm := get_mem hq
        have hP := hV.each q hqm
        have hfew := hP.few
        have hma : q.1 = n ∨ Anc A n q.1 := by
          rw [hqn]
          rcases hin m (by simp) with h | h
          · exact .inl h
          · exact .inr (hs m h)
        have e0 : ix (m :: W) (0 : Int) = some m := rfl
        simp only [F_impl_teachersOf_l0, e0, Option.bind_some, personAt_eq A m hA.1, hqi]
        rw [decide_eq_true (by simp only [List.length_cons]; omega), bif_t]
        refine loop_ex (L := q.2.2) (fun j s => s.1 = (j : Int) ∧ ∃ E, s.2.1 = N ++ E ∧ s.2.2 = m :: (W ++ E) ∧ (N ++ E).Nodup ∧ (∀ t ∈ N ++ E, Anc A n t) ∧ ∀ t ∈ q.2.2.take j, t ∈ N ++ E) (by omega) ⟨rfl, [], by simp, by simp, by simpa using hd, by simpa using hs, by simp⟩ ?_ ?_
        · rintro j ⟨_, _, _⟩ K1 t ht hj ⟨rfl, E, rfl, rfl, hd', hs', hc'⟩ hK1
          have hNl' := nodup_le _ hd' hs'
          rw [List.length_append] at hNl'
          simp only [List.length_cons] at hw
          have hr1 : room ((N ++ E).length + [t].length) 16 := by constructor <;> simp only [List.length_singleton, List.length_append] <;> omega
          have hr2 : room ((m :: (W ++ E)).length + [t].length) 16 := by constructor <;> simp only [List.length_nil, List.length_cons, List.length_append] <;> omega
          simp only [F_impl_teachersOf_l1, int_lt (get_lt ht), bif_t, ix_get ht, Option.bind_some, Contains_eq (N ++ E) t (by rw [List.length_append]; omega), need_true hr1, need_true hr2, w64_succ hj]
          by_cases h : t ∈ N ++ E
          · rw [decide_eq_true h]
            simp only [Bool.not_true, bif_f]
            refine hK1 _ ⟨rfl, E, rfl, rfl, hd', hs', ?_⟩
            intro s hsm
            rw [take_succ ht] at hsm
            rcases List.mem_append.1 hsm with hsm | hsm
            · exact hc' s hsm
            · rw [List.mem_singleton.1 hsm]; exact h
          · rw [decide_eq_false h]
            simp only [Bool.not_false, bif_t]
            have e1 : N ++ E ++ [t] = N ++ (E ++ [t]) := List.append_assoc _ _ _
            have e2 : m :: (W ++ E) ++ [t] = m :: (W ++ (E ++ [t])) := by simp
            refine hK1 _ ⟨rfl, E ++ [t], e1, e2, ?_, ?_, ?_⟩
            · rw [← e1, List.nodup_append]
              refine ⟨hd', by simp, ?_⟩
              intro a ha b hb e
              rw [List.mem_singleton.1 hb] at e
              rw [e] at ha; exact h ha
            · intro s hsm
              rw [← e1] at hsm
              rcases List.mem_append.1 hsm with hsm | hsm
              · exact hs' s hsm
              · rw [List.mem_singleton.1 hsm]; exact Anc.step hqm hma (get_mem ht)
            · intro s hsm
              rw [← e1]
              rw [take_succ ht] at hsm
              rcases List.mem_append.1 hsm with hsm | hsm
              · exact List.mem_append_left _ (hc' s hsm)
              · exact List.mem_append_right _ hsm
        · rintro ⟨_, _, _⟩ K1 ⟨rfl, E, rfl, rfl, hd', hs', hc'⟩
          have hNl' := nodup_le _ hd' hs'
          rw [List.length_append] at hNl'
          simp only [List.length_cons] at hw
          rw [take_all (Nat.le_refl _)] at hc'
          simp only [F_impl_teachersOf_l1, int_lt_self, bif_f]
          rw [need_true (by simp only [List.length_cons]; omega)]
          have e1 : sub (m :: (W ++ E)) 1 ((m :: (W ++ E)).length : Int) = W ++ E := by
            unfold sub
            rw [Int.toNat_natCast, List.take_length]; rfl
          rw [e1]
          refine hK _ ⟨hd', hs', by simp only [List.length_append]; omega, ?_, ?_⟩ (by simp only [List.length_cons, List.length_append]; omega)
          · intro x hx
            dsimp only at hx ⊢
            rcases List.mem_append.1 hx with hx | hx
            · rcases hin x (List.mem_cons_of_mem _ hx) with h | h
              · exact .inl h
              · exact .inr (List.mem_append_left _ h)
            · exact .inr (List.mem_append_right _ hx)
          · intro x hx
            dsimp only at hx ⊢
            by_cases e : x = m
            · right
              intro p hp hpn t ht
              have : p = q := same_one hV hp hqm (by rw [hpn, e, hqn])
              subst this
              exact hc' t ht
            · by_cases hE : x ∈ E
              · left; exact List.mem_append_right _ hE
              · rcases hcl x (by
                  rcases hx with h | h
                  · exact .inl h
                  · rcases List.mem_append.1 h with h | h
                    · exact .inr h
                    · exact absurd h hE) with h | h
                · left
                  rcases List.mem_cons.1 h with h | h
                  · exact absurd h e
                  · exact List.mem_append_left _ h
                · right
                  intro p hp hpn t ht
                  exact List.mem_append_left _ (h p hp hpn t ht)
  obtain ⟨r, e, hr⟩ := key
  rw [e, hr]
end Go.Ab
