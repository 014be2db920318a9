import Derived.Test.YtlboickhkhbffaaPWk4
set_option linter.unusedVariables false
set_option linter.unusedSimpArgs false
namespace Go.Ab
open Go.RowKit
def pits (a : TRaga) (lo : Int) (n : Nat) : List Int := ((List.range n).map fun (j : Nat) => lo + (j : Int)).filter fun p => toneIn a (tone p)
theorem pits_succ (a : TRaga) (lo : Int) (n : Nat) : pits a lo (n + 1) = pits a lo n ++ (if toneIn a (tone (lo + n)) = true then [lo + (n : Int)] else []) := by
 unfold pits
 rw [List.range_succ, List.map_append, List.filter_append]
 congr 1
 cases h : toneIn a (tone (lo + n)) <;> simp [h]
theorem pits_len (a : TRaga) (lo : Int) (n : Nat) : (pits a lo n).length ≤ n := by
 unfold pits
 refine Nat.le_trans (List.length_filter_le _ _) ?_
 simp
theorem pits_in {a : TRaga} {lo : Int} {n : Nat} {p : Int} (h : p ∈ pits a lo n) : lo ≤ p ∧ p < lo + n := by
 unfold pits at h
 obtain ⟨h1, _⟩ := List.mem_filter.1 h
 obtain ⟨j, hj, rfl⟩ := List.mem_map.1 h1
 have := List.mem_range.1 hj
 omega
theorem pits_pw (a : TRaga) (lo : Int) (n : Nat) : List.Pairwise (fun x y : Int => x < y) (pits a lo n) := by
 unfold pits
 refine List.Pairwise.filter _ (List.pairwise_map.2 (List.pairwise_lt_range.imp ?_))
 intro x y h
 omega
def finL (L : List Int) : List Int := (L.zipIdx.filter fun x => decide (tone x.1 = 0)).map fun x => (x.2 : Int) + 1
def arc1 (L : List Int) : List TArc := L.zipIdx.map fun x => ((0 : Int), x.1, (x.2 : Int) + 1)
noncomputable def rowA (a : TRaga) (K : List Int) (p : Int) (i : Nat) : List TArc := (K.zipIdx.filter fun y => decide (rsn a p y.1 = 0)).map fun y => ((i : Int) + 1, y.1, (y.2 : Int) + 1)
noncomputable def arc2 (a : TRaga) (L M : List Int) : List TArc := M.zipIdx.flatMap fun x => rowA a L x.1 x.2
theorem zip_snoc (L : List Int) (p : Int) : (L ++ [p]).zipIdx = L.zipIdx ++ [(p, L.length)] := by simp [List.zipIdx_append]
theorem finL_snoc (L : List Int) (p : Int) : finL (L ++ [p]) = finL L ++ (if tone p = 0 then [(L.length : Int) + 1] else []) := by
 unfold finL
 rw [zip_snoc, List.filter_append, List.map_append]
 congr 1
 by_cases h : tone p = 0 <;> simp [h]
theorem arc1_snoc (L : List Int) (p : Int) : arc1 (L ++ [p]) = arc1 L ++ [((0 : Int), p, (L.length : Int) + 1)] := by
 unfold arc1
 rw [zip_snoc, List.map_append]; rfl
theorem rowA_snoc (a : TRaga) (K : List Int) (q p : Int) (i : Nat) : rowA a (K ++ [q]) p i = rowA a K p i ++ (if rsn a p q = 0 then [((i : Int) + 1, q, (K.length : Int) + 1)] else []) := by
 unfold rowA
 rw [zip_snoc, List.filter_append, List.map_append]
 congr 1
 by_cases h : rsn a p q = 0 <;> simp [h]
theorem arc2_snoc (a : TRaga) (L M : List Int) (p : Int) : arc2 a L (M ++ [p]) = arc2 a L M ++ rowA a L p M.length := by
 unfold arc2
 rw [zip_snoc, List.flatMap_append]
 simp
theorem finL_len (L : List Int) : (finL L).length ≤ L.length := by
 unfold finL
 rw [List.length_map]
 refine Nat.le_trans (List.length_filter_le _ _) ?_
 rw [List.length_zipIdx]; exact Nat.le_refl _
theorem arc1_len (L : List Int) : (arc1 L).length = L.length := by unfold arc1; rw [List.length_map, List.length_zipIdx]
theorem room24 {n : Nat} (h : n ≤ 100000) : room n 24 := ⟨by omega, by omega⟩
theorem room8 {n : Nat} (h : n ≤ 100000) : room n 8 := ⟨by omega, by omega⟩
theorem take_len {α : Type} {L : List α} {i : Nat} (h : i < L.length) : (L.take i).length = i := by rw [List.length_take]; omega
section
variable {a : TRaga}
theorem spec_l2 (o : OkRaga a) (h2 : ∀ q ∈ a.2.2.2.2.2, ∃ x y, q = [x, y]) {L fins : List Int} {acc0 : List TArc} (hb : ∀ p ∈ L, -100 ≤ p ∧ p ≤ 100) (hl : L.length ≤ 36) (h0 : acc0.length ≤ 36) :
  loop (F_spec_l07Of_l2 a L fins) (0, acc0) = some ((L.length : Int) + 1, 0, fins, acc0 ++ arc2 a L L) := by
 obtain ⟨r, e, hr⟩ := loop_ex (body := F_spec_l07Of_l2 a L fins) (s0 := (0, acc0)) (L := L) (Q := fun r => r = ((L.length : Int) + 1, 0, fins, acc0 ++ arc2 a L L))
  (fun i s => s.1 = (i : Int) ∧ s.2 = acc0 ++ arc2 a L (L.take i) ∧ s.2.length ≤ 36 + i * 36) (by omega) ⟨rfl, by simp [arc2], by dsimp only; omega⟩
  (by
   rintro i ⟨_, acc⟩ K p hp hi ⟨rfl, g1, g2⟩ hK
   dsimp only at g1 g2
   have hlt := get_lt hp
   simp only [F_spec_l07Of_l2, int_lt hlt, bif_t]
   refine loop_ex (L := L) (fun k s => s.1 = (k : Int) ∧ s.2 = acc ++ rowA a (L.take k) p i ∧ s.2.length ≤ acc.length + k) (by omega) ⟨rfl, by simp [rowA], by dsimp only; omega⟩ ?_ ?_
   ·rintro k ⟨_, ac⟩ K1 q hq hk ⟨rfl, q1, q2⟩ hK1
    dsimp only at q1 q2
    have hltk := get_lt hq
    have hr := (reason_eq o h2 (hb p (get_mem hp)) (hb q (get_mem hq))).1
    have hroom : room (ac.length + ([(w64 ((i : Int) + 1), q, ((k + 1 : Nat) : Int))] : List TArc).length) 24 := room24 (by simp only [List.length_singleton]; omega)
    simp only [F_spec_l07Of_l3, int_lt hltk, bif_t, ix_get hp, ix_get hq, Option.bind_some, hr, need_true hroom, bif_dec, w64_succ hk]
    have ht : L.take (k + 1) = L.take k ++ [q] := take_succ hq
    split
    ·rename_i h
     refine hK1 _ ⟨rfl, ?_, by simp only [List.length_append, List.length_singleton]; omega⟩
     dsimp only
     rw [ht, rowA_snoc, if_pos h, take_len hltk, q1, List.append_assoc, w64_id (show -9223372036854775808 ≤ (i : Int) + 1 ∧ (i : Int) + 1 ≤ 9223372036854775807 by omega), show ((k + 1 : Nat) : Int) = (k : Int) + 1 by omega]
    ·rename_i h
     refine hK1 _ ⟨rfl, ?_, by dsimp only; omega⟩
     dsimp only
     rw [ht, rowA_snoc, if_neg h, List.append_nil, q1]
   ·rintro ⟨_, ac⟩ K1 ⟨rfl, q1, q2⟩
    dsimp only at q1 q2
    simp only [F_spec_l07Of_l3, int_lt_self, bif_f, w64_succ hi]
    rw [take_all (Nat.le_refl _)] at q1
    refine hK _ ⟨rfl, ?_, by dsimp only; omega⟩
    dsimp only
    rw [take_succ hp, arc2_snoc, take_len hlt, q1, g1, List.append_assoc])
  (by
   rintro ⟨_, acc⟩ K ⟨rfl, g1, g2⟩
   dsimp only at g1 g2
   rw [take_all (Nat.le_refl _)] at g1
   refine ⟨_, ?_, rfl⟩
   simp only [F_spec_l07Of_l2, int_lt_self, bif_f]
   rw [g1, w64_id (by omega)])
 rw [e, hr]
theorem impl_l6 (o : OkRaga a) (h2 : ∀ q ∈ a.2.2.2.2.2, ∃ x y, q = [x, y]) {L fins : List Int} {acc0 : List TArc} {next : Int} (hb : ∀ p ∈ L, -100 ≤ p ∧ p ≤ 100) (hl : L.length ≤ 36) (h0 : acc0.length ≤ 36) :
  ∃ g c, loop (F_impl_GrammarOf_l6 a next L fins) (0, acc0) = some (g, c) ∧ decide (c = 0) = (!decide (32 < next) && !decide ((256 : Int) < ((acc0 ++ arc2 a L L).length : Int))) := by
 obtain ⟨r, e, hr⟩ := loop_ex (body := F_impl_GrammarOf_l6 a next L fins) (s0 := (0, acc0)) (L := L) (Q := fun r => decide (r.2 = 0) = (!decide (32 < next) && !decide ((256 : Int) < ((acc0 ++ arc2 a L L).length : Int))))
  (fun i s => s.1 = (i : Int) ∧ s.2 = acc0 ++ arc2 a L (L.take i) ∧ s.2.length ≤ 36 + i * 36) (by omega) ⟨rfl, by simp [arc2], by dsimp only; omega⟩
  (by
   rintro i ⟨_, acc⟩ K p hp hi ⟨rfl, g1, g2⟩ hK
   dsimp only at g1 g2
   have hlt := get_lt hp
   simp only [F_impl_GrammarOf_l6, int_lt hlt, bif_t, ix_get hp, Option.bind_some]
   refine loop_ex (L := L) (fun k s => s.1 = (k : Int) ∧ s.2 = acc ++ rowA a (L.take k) p i ∧ s.2.length ≤ acc.length + k) (by omega) ⟨rfl, by simp [rowA], by dsimp only; omega⟩ ?_ ?_
   ·rintro k ⟨_, ac⟩ K1 q hq hk ⟨rfl, q1, q2⟩ hK1
    dsimp only at q1 q2
    have hltk := get_lt hq
    have hr := (reason_eq o h2 (hb p (get_mem hp)) (hb q (get_mem hq))).2
    have hroom : room (ac.length + ([(w64 ((i : Int) + 1), q, ((k + 1 : Nat) : Int))] : List TArc).length) 24 := room24 (by simp only [List.length_singleton]; omega)
    simp only [F_impl_GrammarOf_l7, int_lt hltk, bif_t, ix_get hq, Option.bind_some, hr, need_true hroom, bif_dec, w64_succ hk]
    have ht : L.take (k + 1) = L.take k ++ [q] := take_succ hq
    split
    ·rename_i h
     refine hK1 _ ⟨rfl, ?_, by simp only [List.length_append, List.length_singleton]; omega⟩
     dsimp only
     rw [ht, rowA_snoc, if_pos h, take_len hltk, q1, List.append_assoc, w64_id (show -9223372036854775808 ≤ (i : Int) + 1 ∧ (i : Int) + 1 ≤ 9223372036854775807 by omega), show ((k + 1 : Nat) : Int) = (k : Int) + 1 by omega]
    ·rename_i h
     refine hK1 _ ⟨rfl, ?_, by dsimp only; omega⟩
     dsimp only
     rw [ht, rowA_snoc, if_neg h, List.append_nil, q1]
   ·rintro ⟨_, ac⟩ K1 ⟨rfl, q1, q2⟩
    dsimp only at q1 q2
    simp only [F_impl_GrammarOf_l7, int_lt_self, bif_f, w64_succ hi]
    rw [take_all (Nat.le_refl _)] at q1
    refine hK _ ⟨rfl, ?_, by dsimp only; omega⟩
    dsimp only
    rw [take_succ hp, arc2_snoc, take_len hlt, q1, g1, List.append_assoc])
  (by
   rintro ⟨_, acc⟩ K ⟨rfl, g1, g2⟩
   dsimp only at g1 g2
   rw [take_all (Nat.le_refl _)] at g1
   simp only [F_impl_GrammarOf_l6, int_lt_self, bif_f]
   rw [g1]
   cases decide (32 < next)
   ·rw [bif_f]
    cases decide ((256 : Int) < ((acc0 ++ arc2 a L L).length : Int))
    ·exact ⟨_, rfl, rfl⟩
    ·exact ⟨_, rfl, rfl⟩
   ·exact ⟨_, rfl, rfl⟩)
 obtain ⟨g, c⟩ := r
 exact ⟨g, c, e, hr⟩
theorem spec_l1 (o : OkRaga a) (h2 : ∀ q ∈ a.2.2.2.2.2, ∃ x y, q = [x, y]) {L : List Int} (hb : ∀ p ∈ L, -100 ≤ p ∧ p ≤ 100) (hl : L.length ≤ 36) :
  loop (F_spec_l07Of_l1 a L) (0, [], []) = some ((L.length : Int) + 1, 0, finL L, arc1 L ++ arc2 a L L) := by
 obtain ⟨r, e, hr⟩ := loop_ex (body := F_spec_l07Of_l1 a L) (s0 := (0, [], [])) (L := L) (Q := fun r => r = ((L.length : Int) + 1, 0, finL L, arc1 L ++ arc2 a L L))
  (fun i s => s = ((i : Int), finL (L.take i), arc1 (L.take i))) (by omega) rfl
  (by
   rintro i _ K p hp hi rfl hK
   have hlt := get_lt hp
   have hf := finL_len (L.take i)
   have ha := arc1_len (L.take i)
   rw [take_len hlt] at hf ha
   have hr1 : room ((arc1 (L.take i)).length + ([(0, p, ((i + 1 : Nat) : Int))] : List TArc).length) 24 := room24 (by simp only [List.length_singleton]; omega)
   have hr2 : room ((finL (L.take i)).length + ([((i + 1 : Nat) : Int)] : List Int).length) 8 := room8 (by simp only [List.length_singleton]; omega)
   simp only [F_spec_l07Of_l1, int_lt hlt, bif_t, ix_get hp, Option.bind_some, need_true hr1, need_true hr2, l03Tone_eq, bif_dec, w64_succ hi]
   have hc : (((i + 1 : Nat) : Int)) = (i : Int) + 1 := by omega
   split
   ·rename_i h
    refine hK _ ?_
    rw [take_succ hp, finL_snoc, arc1_snoc, if_pos h, take_len hlt, hc]
   ·rename_i h
    refine hK _ ?_
    rw [take_succ hp, finL_snoc, arc1_snoc, if_neg h, take_len hlt, hc, List.append_nil])
  (by
   rintro _ K rfl
   simp only [F_spec_l07Of_l1, int_lt_self, bif_f]
   rw [take_all (Nat.le_refl _)]
   have ha := arc1_len L
   exact ⟨_, spec_l2 o h2 hb hl (by omega), rfl⟩)
 rw [e, hr]
theorem spec_of (o : OkRaga a) (h2 : ∀ q ∈ a.2.2.2.2.2, ∃ x y, q = [x, y]) {lo hi : Int} (h : -12 ≤ lo ∧ lo ≤ hi ∧ hi ≤ 23) :
  F_spec_l07Of a lo hi = some (((pits a lo (hi + 1 - lo).toNat).length : Int) + 1, 0, finL (pits a lo (hi + 1 - lo).toNat), arc1 (pits a lo (hi + 1 - lo).toNat) ++ arc2 a (pits a lo (hi + 1 - lo).toNat) (pits a lo (hi + 1 - lo).toNat)) := by
 generalize hN : (hi + 1 - lo).toNat = N
 have hl := pits_len a lo N
 have hb : ∀ p ∈ pits a lo N, -100 ≤ p ∧ p ≤ 100 := fun p hp => by have := pits_in hp; omega
 unfold F_spec_l07Of
 obtain ⟨r, e, hr⟩ := loop_ex (body := F_spec_l07Of_l0 a hi) (s0 := (lo, [])) (L := List.range N) (Q := fun r => r = (((pits a lo N).length : Int) + 1, 0, finL (pits a lo N), arc1 (pits a lo N) ++ arc2 a (pits a lo N) (pits a lo N)))
  (fun i s => s = (lo + (i : Int), pits a lo i)) (by rw [List.length_range]; omega) (by simp [pits])
  (by
   rintro i _ K j hj hi2 rfl hK
   have hlt := get_lt hj
   rw [List.length_range] at hlt
   have hn := pits_len a lo i
   have hr1 : room ((pits a lo i).length + ([lo + (i : Int)] : List Int).length) 8 := room8 (by simp only [List.length_singleton]; omega)
   have hw : w64 (lo + (i : Int) + 1) = lo + ((i + 1 : Nat) : Int) := by rw [w64_id (by omega)]; omega
   have hle : decide (lo + (i : Int) ≤ hi) = true := decide_eq_true (by omega)
   simp only [F_spec_l07Of_l0, hle, bif_t, l03Tone_eq, Option.bind_some, l05Tone_eq o.2.1.1 o.2.2.1.1, need_true hr1, hw]
   have hs := pits_succ a lo i
   cases ht : toneIn a (tone (lo + i))
   ·rw [ht, if_neg (by simp), List.append_nil] at hs
    rw [bif_f]
    exact hK _ (by rw [hs])
   ·rw [ht, if_pos rfl] at hs
    rw [bif_t]
    exact hK _ (by rw [hs]))
  (by
   rintro _ K rfl
   rw [List.length_range]
   have hle : decide (lo + (N : Int) ≤ hi) = false := decide_eq_false (by omega)
   simp only [F_spec_l07Of_l0, hle, bif_f]
   exact ⟨_, spec_l1 o h2 hb (by omega), rfl⟩)
 rw [e, hr]
theorem impl_of (o : OkRaga a) (h2 : ∀ q ∈ a.2.2.2.2.2, ∃ x y, q = [x, y]) {lo hi : Int} (h : -12 ≤ lo ∧ lo ≤ hi ∧ hi ≤ 23) :
  ∃ g c, loop (F_impl_GrammarOf_l2 a hi) (lo, 1, [], [], []) = some (g, c) ∧ decide (c = 0) = (!decide ((32 : Int) < ((pits a lo (hi + 1 - lo).toNat).length : Int) + 1) && !decide ((256 : Int) < ((arc1 (pits a lo (hi + 1 - lo).toNat) ++ arc2 a (pits a lo (hi + 1 - lo).toNat) (pits a lo (hi + 1 - lo).toNat)).length : Int))) := by
 generalize hN : (hi + 1 - lo).toNat = N
 have hl := pits_len a lo N
 have hb : ∀ p ∈ pits a lo N, -100 ≤ p ∧ p ≤ 100 := fun p hp => by have := pits_in hp; omega
 obtain ⟨r, e, hr⟩ := loop_ex (body := F_impl_GrammarOf_l2 a hi) (s0 := (lo, 1, [], [], [])) (L := List.range N) (Q := fun r => decide (r.2 = 0) = (!decide ((32 : Int) < ((pits a lo N).length : Int) + 1) && !decide ((256 : Int) < ((arc1 (pits a lo N) ++ arc2 a (pits a lo N) (pits a lo N)).length : Int))))
  (fun i s => s = (lo + (i : Int), ((pits a lo i).length : Int) + 1, pits a lo i, finL (pits a lo i), arc1 (pits a lo i))) (by rw [List.length_range]; omega) (by simp [pits, finL, arc1])
  (by
   rintro i _ K j hj hi2 rfl hK
   have hlt := get_lt hj
   rw [List.length_range] at hlt
   have hn := pits_len a lo i
   have hf := finL_len (pits a lo i)
   have ha := arc1_len (pits a lo i)
   have hr1 : room ((pits a lo i).length + ([lo + (i : Int)] : List Int).length) 8 := room8 (by simp only [List.length_singleton]; omega)
   have hr2 : room ((finL (pits a lo i)).length + ([((pits a lo i).length : Int) + 1] : List Int).length) 8 := room8 (by simp only [List.length_singleton]; omega)
   have hr3 : room ((arc1 (pits a lo i)).length + ([(0, lo + (i : Int), ((pits a lo i).length : Int) + 1)] : List TArc).length) 24 := room24 (by simp only [List.length_singleton]; omega)
   have hw : w64 (lo + (i : Int) + 1) = lo + ((i + 1 : Nat) : Int) := by rw [w64_id (by omega)]; omega
   have hw2 : w64 (((pits a lo i).length : Int) + 1 + 1) = ((pits a lo i).length : Int) + 1 + 1 := w64_id (by omega)
   have hle : decide (lo + (i : Int) ≤ hi) = true := decide_eq_true (by omega)
   have hs := pits_succ a lo i
   simp only [F_impl_GrammarOf_l2, F_impl_GrammarOf_j3, hle, bif_t, ToneOf_eq, Option.bind_some, hasTone_eq o.2.1.1 o.2.2.1.1, need_true hr1, need_true hr2, need_true hr3, hw, hw2, nif, bif_dec]
   cases ht : toneIn a (tone (lo + i))
   ·rw [ht, if_neg (by simp), List.append_nil] at hs
    rw [bif_f]
    exact hK _ (by rw [hs])
   ·rw [ht, if_pos rfl] at hs
    rw [bif_t]
    have hlen : ((pits a lo (i + 1)).length : Int) + 1 = ((pits a lo i).length : Int) + 1 + 1 := by rw [hs, List.length_append, List.length_singleton]; omega
    split
    ·rename_i h0
     refine hK _ ?_
     rw [hlen, hs, finL_snoc, arc1_snoc, if_pos h0]
    ·rename_i h0
     refine hK _ ?_
     rw [hlen, hs, finL_snoc, arc1_snoc, if_neg h0, List.append_nil])
  (by
   rintro _ K rfl
   rw [List.length_range]
   have hle : decide (lo + (N : Int) ≤ hi) = false := decide_eq_false (by omega)
   simp only [F_impl_GrammarOf_l2, hle, bif_f]
   have ha := arc1_len (pits a lo N)
   obtain ⟨g, c, e, hc⟩ := impl_l6 (next := ((pits a lo N).length : Int) + 1) (fins := finL (pits a lo N)) o h2 hb (show (pits a lo N).length ≤ 36 by omega) (show (arc1 (pits a lo N)).length ≤ 36 by omega)
   exact ⟨_, e, hc⟩)
 obtain ⟨g, c⟩ := r
 exact ⟨g, c, e, hr⟩
end
end Go.Ab
