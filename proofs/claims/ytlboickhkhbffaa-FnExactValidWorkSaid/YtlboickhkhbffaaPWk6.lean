import Derived.Test.YtlboickhkhbffaaPWk5
set_option linter.unusedVariables false
set_option linter.unusedSimpArgs false
namespace Go.Ab
open Go.RowKit
theorem zip_pw {L : List Int} (h : List.Pairwise (fun x y : Int => x < y) L) : List.Pairwise (fun x y : Int × Nat => x.1 < y.1 ∧ x.2 < y.2) L.zipIdx := by
 rw [List.pairwise_iff_getElem]
 intro i j hi hj hij
 rw [List.getElem_zipIdx, List.getElem_zipIdx]
 rw [List.length_zipIdx] at hi hj
 exact ⟨List.pairwise_iff_getElem.1 h i j hi hj hij, by dsimp only; omega⟩
theorem zip_in {L : List Int} {x : Int × Nat} (h : x ∈ L.zipIdx) : x.1 ∈ L ∧ x.2 < L.length := by
 have := List.mem_zipIdx_iff_getElem?.1 h
 exact ⟨get_mem this, get_lt this⟩
def alx (x y : TArc) : Prop := x.1 < y.1 ∨ (x.1 = y.1 ∧ x.2.1 < y.2.1)
theorem row_pw {a : TRaga} {L : List Int} (h : List.Pairwise (fun x y : Int => x < y) L) (p : Int) (i : Nat) : List.Pairwise alx (rowA a L p i) := by
 unfold rowA
 refine List.pairwise_map.2 (((zip_pw h).filter _).imp ?_)
 intro x y h
 exact .inr ⟨rfl, h.1⟩
theorem row_from {a : TRaga} {L : List Int} {p : Int} {i : Nat} {x : TArc} (h : x ∈ rowA a L p i) : x.1 = (i : Int) + 1 ∧ x.2.1 ∈ L ∧ 1 ≤ x.2.2 ∧ x.2.2 ≤ L.length := by
 unfold rowA at h
 obtain ⟨y, hy, rfl⟩ := List.mem_map.1 h
 obtain ⟨h1, h2⟩ := zip_in (List.mem_filter.1 hy).1
 exact ⟨rfl, h1, by dsimp only; omega, by dsimp only; omega⟩
theorem arcs_pw {a : TRaga} {L : List Int} (h : List.Pairwise (fun x y : Int => x < y) L) : List.Pairwise alx (arc1 L ++ arc2 a L L) := by
 rw [List.pairwise_append]
 refine ⟨?_, ?_, ?_⟩
 ·unfold arc1
  refine List.pairwise_map.2 ((zip_pw h).imp ?_)
  intro x y h
  exact .inr ⟨rfl, h.1⟩
 ·unfold arc2
  rw [List.pairwise_flatMap]
  refine ⟨fun x _ => row_pw h _ _, (zip_pw h).imp ?_⟩
  intro x y hxy u hu v hv
  have h1 := (row_from hu).1
  have h2 := (row_from hv).1
  have := hxy.2
  exact .inl (by omega)
 ·intro x hx y hy
  unfold arc1 at hx
  obtain ⟨z, _, rfl⟩ := List.mem_map.1 hx
  unfold arc2 at hy
  obtain ⟨u, _, hu⟩ := List.mem_flatMap.1 hy
  have := (row_from hu).1
  exact .inl (by dsimp only; omega)
theorem arcs_in {a : TRaga} {L : List Int} {x : TArc} (h : x ∈ arc1 L ++ arc2 a L L) : (0 ≤ x.1 ∧ x.1 ≤ L.length) ∧ x.2.1 ∈ L ∧ (0 ≤ x.2.2 ∧ x.2.2 ≤ L.length) := by
 rcases List.mem_append.1 h with h | h
 ·unfold arc1 at h
  obtain ⟨z, hz, rfl⟩ := List.mem_map.1 h
  obtain ⟨h1, h2⟩ := zip_in hz
  exact ⟨⟨by dsimp only; omega, by dsimp only; omega⟩, h1, by dsimp only; omega, by dsimp only; omega⟩
 ·unfold arc2 at h
  obtain ⟨u, hu, hx⟩ := List.mem_flatMap.1 h
  obtain ⟨_, h2⟩ := zip_in hu
  obtain ⟨h3, h4, h5, h6⟩ := row_from hx
  exact ⟨⟨by omega, by omega⟩, h4, by omega, by omega⟩
theorem fin_rises {L : List Int} (h : List.Pairwise (fun x y : Int => x < y) L) : rises (finL L) 0 (L.length : Int) = true := by
 unfold rises
 rw [adj_iff]
 have hp : List.Pairwise (fun x y : Int => x < y) (finL L) := by
  unfold finL
  refine List.pairwise_map.2 (((zip_pw h).filter _).imp ?_)
  intro x y h
  have := h.2
  omega
 refine ⟨fun x hx => ?_, fun i x y hx hy => ?_⟩
 ·unfold finL at hx
  obtain ⟨z, hz, rfl⟩ := List.mem_map.1 hx
  obtain ⟨h1, h2⟩ := zip_in (List.mem_filter.1 hz).1
  exact decide_eq_true (by omega)
 ·have h1 := get_lt hx
  have h2 := get_lt hy
  have := List.pairwise_iff_getElem.1 hp i (i + 1) h1 h2 (by omega)
  rw [List.getElem?_eq_getElem h1] at hx
  rw [List.getElem?_eq_getElem h2] at hy
  cases hx; cases hy; exact decide_eq_true this
theorem l07Ok_eq {a : TRaga} {L : List Int} (h : List.Pairwise (fun x y : Int => x < y) L) (hb : ∀ p ∈ L, -12 ≤ p ∧ p ≤ 23) (hl : L.length ≤ 36) (hal : (arc1 L ++ arc2 a L L).length ≤ 100000) :
  F_spec_l07Ok ((L.length : Int) + 1, 0, finL L, arc1 L ++ arc2 a L L) = some (!decide ((32 : Int) < (L.length : Int) + 1) && !decide ((256 : Int) < ((arc1 L ++ arc2 a L L).length : Int))) := by
 have hw : w64 ((L.length : Int) + 1 - 1) = (L.length : Int) := by rw [w64_id (by omega)]; omega
 have hf := finL_len L
 have hpw := arcs_pw (a := a) h
 have hin : ∀ x ∈ arc1 L ++ arc2 a L L, _ := fun x hx => arcs_in hx
 unfold F_spec_l07Ok
 dsimp only
 rw [l00In_eq, hw, l00In_eq, l00Rises_eq (by omega), fin_rises h]
 simp only [Option.bind_some, Bool.not_true, bif_f]
 rw [decide_eq_true (show (0 : Int) ≤ 0 ∧ (0 : Int) ≤ (L.length : Int) by omega), Bool.not_true, bif_f]
 by_cases h32 : (32 : Int) < (L.length : Int) + 1
 ·rw [decide_eq_false (show ¬ (1 ≤ (L.length : Int) + 1 ∧ (L.length : Int) + 1 ≤ 32) by omega), decide_eq_true h32]; rfl
 ·rw [decide_eq_true (show 1 ≤ (L.length : Int) + 1 ∧ (L.length : Int) + 1 ≤ 32 by omega), decide_eq_false h32]
  simp only [Bool.not_true, bif_f, Bool.not_false, Bool.true_and]
  cases decide ((256 : Int) < ((arc1 L ++ arc2 a L L).length : Int))
  ·rw [bif_f]
   have e : loop (F_spec_l07Ok_l0 ((L.length : Int) + 1, 0, finL L, arc1 L ++ arc2 a L L)) 0 = some (adj (fun x : TArc => decide (0 ≤ x.1 ∧ x.1 ≤ (L.length : Int)) && (decide (-12 ≤ x.2.1 ∧ x.2.1 ≤ 23) && decide (0 ≤ x.2.2 ∧ x.2.2 ≤ (L.length : Int)))) (fun q x => !decide (x.1 < q.1) && !(decide (q.1 = x.1) && decide (x.2.1 ≤ q.2.1))) none (arc1 L ++ arc2 a L L) && true) := by
    generalize hAA : arc1 L ++ arc2 a L L = AA at hal
    refine loop_adj (A := AA) (by omega) ?_ ?_ ?_
    ·intro k x hx
     have h0 : (0 : Int) = ((0 : Nat) : Int) := rfl
     rw [h0]
     simp only [F_spec_l07Ok_l0, F_spec_l03Pitch, int_lt (get_lt hx), bif_t, ix_get hx, Option.bind_some, l00In_eq, nif, hw]
     cases decide (((0 : Nat) : Int) ≤ x.1 ∧ x.1 ≤ (L.length : Int)) <;> cases decide (-12 ≤ x.2.1 ∧ x.2.1 ≤ 23) <;> cases decide (((0 : Nat) : Int) ≤ x.2.2 ∧ x.2.2 ≤ (L.length : Int)) <;> rfl
    ·intro i k q x hq hx hi
     simp only [F_spec_l07Ok_l0, F_spec_l03Pitch, int_lt (get_lt hx), bif_t, ix_get hx, Option.bind_some, l00In_eq, nif, hw, int_pos', w64_pred (show i < 9223372036854775807 by omega), w64_succ hi, ix_get hq]
     cases decide (0 ≤ x.1 ∧ x.1 ≤ (L.length : Int)) <;> cases decide (-12 ≤ x.2.1 ∧ x.2.1 ≤ 23) <;> cases decide (0 ≤ x.2.2 ∧ x.2.2 ≤ (L.length : Int)) <;> cases decide (x.1 < q.1) <;> cases decide (q.1 = x.1) <;> cases decide (x.2.1 ≤ q.2.1) <;> rfl
    ·intro k
     simp only [F_spec_l07Ok_l0, int_lt_self, bif_f]
   rw [e, Bool.and_true, Bool.not_false]
   congr 1
   rw [adj_iff]
   refine ⟨fun x hx => ?_, fun i x y hx hy => ?_⟩
   ·obtain ⟨g1, g2, g3⟩ := hin x hx
    have := hb _ g2
    rw [decide_eq_true g1, decide_eq_true this, decide_eq_true g3]; rfl
   ·have h1 := get_lt hx
    have h2 := get_lt hy
    have := List.pairwise_iff_getElem.1 hpw i (i + 1) h1 h2 (by omega)
    rw [List.getElem?_eq_getElem h1] at hx
    rw [List.getElem?_eq_getElem h2] at hy
    cases hx; cases hy
    rcases this with h | ⟨h3, h4⟩
    ·rw [decide_eq_false (by omega), decide_eq_false (by omega)]; rfl
    ·rw [decide_eq_false (by omega), decide_eq_true h3, decide_eq_false (by omega)]; rfl
  ·rfl
theorem arc2_len (a : TRaga) (L : List Int) (hl : L.length ≤ 36) : ∀ M : List Int, (arc2 a L M).length ≤ M.length * 36 := by
 intro M
 unfold arc2
 rw [List.length_flatMap]
 have : ∀ N : List (Int × Nat), (N.map fun x => (rowA a L x.1 x.2).length).sum ≤ N.length * 36 := by
  intro N
  induction N with
  | nil => simp
  | cons x N ih =>
   have hx : (rowA a L x.1 x.2).length ≤ 36 := by
    unfold rowA
    rw [List.length_map]
    refine Nat.le_trans (List.length_filter_le _ _) ?_
    rw [List.length_zipIdx]; exact hl
   simp only [List.map_cons, List.sum_cons, List.length_cons]
   omega
 have h := this M.zipIdx
 rw [List.length_zipIdx] at h
 exact h
theorem core_ValidWork (w : TWork) (o : OkWork w) (s : SmWork w) : ∃ r, F_spec_ValidWork w = some r ∧ F_impl_ValidWork w = some r ∧ True := by
 obtain ⟨oR, oLo, oHi, oM, oT, _, _, _, _, _, oU⟩ := o
 unfold F_spec_ValidWork F_spec_l31Ok F_impl_ValidWork F_impl_GrammarOf F_spec_l03Pitch F_impl_pitchOk
 rw [l05Ok_eq oR, ValidRaga_eq oR, l09Ok_eq oM.1, ValidMelody_eq oM.1, l23Ok_eq oU, ValidTurns_eq oU]
 simp only [Option.bind_some, l00In_eq, within_eq, nif]
 obtain ⟨cI, ei, hi⟩ := cad_impl oT w.2.2.2.2.2.2.2.2.2.2.2.2.1 w.2.2.2.2.2.2.2.2.2.2.2.2.2.2.1 w.2.2.2.2.2.2.2.2.2.2.2.2.2.2.2.1 w.2.2.2.2.2.2.2.2.2.2.2.2.2.2.2.2.1
 obtain ⟨cS, es, ep, eg, hs⟩ := cad_spec oT w.2.2.2.2.2.2.2.2.2.2.2.2.1 w.2.2.2.2.2.2.2.2.2.2.2.2.2.2.1 w.2.2.2.2.2.2.2.2.2.2.2.2.2.2.2.1 w.2.2.2.2.2.2.2.2.2.2.2.2.2.2.2.2.1
 rw [ei, es, ep, eg]
 simp only [Option.bind_some]
 rw [hi, ← hs]
 cases hR : ragaOk (w.1, w.2.1, w.2.2.1, w.2.2.2.1, w.2.2.2.2.1, w.2.2.2.2.2.1)
 ·exact ⟨false, rfl, rfl, trivial⟩
 by_cases hp : -12 ≤ w.2.2.2.2.2.2.1 ∧ w.2.2.2.2.2.2.1 ≤ 23
 case neg => rw [decide_eq_false hp]; exact ⟨false, rfl, rfl, trivial⟩
 by_cases hq : w.2.2.2.2.2.2.1 ≤ w.2.2.2.2.2.2.2.1 ∧ w.2.2.2.2.2.2.2.1 ≤ 23
 case neg => rw [decide_eq_true hp, decide_eq_false hq]; exact ⟨false, rfl, rfl, trivial⟩
 rw [decide_eq_true hp, decide_eq_true hq]
 simp only [bif_t]
 have h2 : ∀ q ∈ ((w.1, w.2.1, w.2.2.1, w.2.2.2.1, w.2.2.2.2.1, w.2.2.2.2.2.1) : TRaga).2.2.2.2.2, ∃ x y, q = [x, y] := by
  intro q hq
  unfold ragaOk at hR
  simp only [Bool.and_eq_true] at hR
  have := hR.2.2.2.2.2.2
  unfold pairsOk at this
  rw [Bool.and_eq_true] at this
  exact pr2_two ((adj_all this.1).1 q hq)
 have hsp := spec_of oR h2 (lo := w.2.2.2.2.2.2.1) (hi := w.2.2.2.2.2.2.2.1) ⟨hp.1, hq.1, hq.2⟩
 obtain ⟨g, c, hig, hc⟩ := impl_of oR h2 (lo := w.2.2.2.2.2.2.1) (hi := w.2.2.2.2.2.2.2.1) ⟨hp.1, hq.1, hq.2⟩
 rw [hsp, hig]
 simp only [Option.bind_some]
 have hN : (w.2.2.2.2.2.2.2.1 + 1 - w.2.2.2.2.2.2.1).toNat ≤ 36 := by omega
 have hNe : (w.2.2.2.2.2.2.1 : Int) + (((w.2.2.2.2.2.2.2.1 + 1 - w.2.2.2.2.2.2.1).toNat : Nat) : Int) ≤ 24 := by omega
 have hpl := pits_len (w.1, w.2.1, w.2.2.1, w.2.2.2.1, w.2.2.2.2.1, w.2.2.2.2.2.1) w.2.2.2.2.2.2.1 (w.2.2.2.2.2.2.2.1 + 1 - w.2.2.2.2.2.2.1).toNat
 have hpp := pits_pw (w.1, w.2.1, w.2.2.1, w.2.2.2.1, w.2.2.2.2.1, w.2.2.2.2.2.1) w.2.2.2.2.2.2.1 (w.2.2.2.2.2.2.2.1 + 1 - w.2.2.2.2.2.2.1).toNat
 have hpb : ∀ p ∈ pits (w.1, w.2.1, w.2.2.1, w.2.2.2.1, w.2.2.2.2.1, w.2.2.2.2.2.1) w.2.2.2.2.2.2.1 (w.2.2.2.2.2.2.2.1 + 1 - w.2.2.2.2.2.2.1).toNat, -12 ≤ p ∧ p ≤ 23 := fun p h => by have := pits_in h; omega
 generalize pits (w.1, w.2.1, w.2.2.1, w.2.2.2.1, w.2.2.2.2.1, w.2.2.2.2.2.1) w.2.2.2.2.2.2.1 (w.2.2.2.2.2.2.2.1 + 1 - w.2.2.2.2.2.2.1).toNat = L at hc hpl hpp hpb
 have hal : (arc1 L ++ arc2 (w.1, w.2.1, w.2.2.1, w.2.2.2.1, w.2.2.2.2.1, w.2.2.2.2.2.1) L L).length ≤ 100000 := by
  have h1 := arc1_len L
  have h3 := arc2_len (w.1, w.2.1, w.2.2.1, w.2.2.2.1, w.2.2.2.2.1, w.2.2.2.2.2.1) L (by omega) L
  rw [List.length_append]; omega
 rw [l07Ok_eq hpp hpb (by omega) hal, hc]
 simp only [Option.bind_some]
 generalize (!decide ((32 : Int) < (L.length : Int) + 1) && !decide ((256 : Int) < ((arc1 L ++ arc2 (w.1, w.2.1, w.2.2.1, w.2.2.2.1, w.2.2.2.2.1, w.2.2.2.2.2.1) L L).length : Int))) = b1
 generalize melOk _ = b2
 generalize turnsOk _ = b3
 generalize decide (cS = 0) = b4
 generalize decide (1 ≤ w.2.2.2.2.2.2.2.2.2.2.2.2.2.2.2.1 ∧ w.2.2.2.2.2.2.2.2.2.2.2.2.2.2.2.1 ≤ 64) = b5
 generalize decide (0 ≤ w.2.2.2.2.2.2.2.2.2.2.2.2.2.2.2.2.1 ∧ w.2.2.2.2.2.2.2.2.2.2.2.2.2.2.2.2.1 ≤ 32) = b6
 refine ⟨b1 && (b2 && (b3 && (b4 && (b5 && b6)))), ?_, ?_, trivial⟩ <;> cases b1 <;> cases b2 <;> cases b3 <;> cases b4 <;> cases b5 <;> cases b6 <;> rfl
end Go.Ab
