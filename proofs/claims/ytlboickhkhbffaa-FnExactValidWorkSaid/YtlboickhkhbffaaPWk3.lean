import Derived.Test.YtlboickhkhbffaaPWk2
set_option linter.unusedVariables false
set_option linter.unusedSimpArgs false
namespace Go.Ab
open Go.RowKit
def sumW (L : List Int) : Int := L.foldl (fun s x => w64 (s + x)) 0
theorem sumW_step {L : List Int} {i : Nat} {a : Int} (h : L[i]? = some a) : sumW (L.take (i + 1)) = w64 (sumW (L.take i) + a) := by
 unfold sumW
 rw [take_succ h, List.foldl_append]; rfl
theorem l17Sum_eq {L : List Int} (hL : L.length ≤ 9223372036854775807) : F_spec_l17Sum L = some (sumW L) := by
 unfold F_spec_l17Sum
 obtain ⟨r, e, hr⟩ := loop_ex (body := F_spec_l17Sum_l0 L) (s0 := (0, 0)) (L := L) (Q := fun r => r = sumW L) (fun i s => s = (sumW (L.take i), (i : Int))) hL rfl
  (by
   rintro i _ K a ha hi rfl hK
   simp only [F_spec_l17Sum_l0, int_lt (get_lt ha), bif_t, ix_get ha, Option.bind_some, w64_succ hi]
   exact hK _ (by rw [sumW_step ha]))
  (by
   rintro _ K rfl
   refine ⟨sumW L, ?_, rfl⟩
   simp only [F_spec_l17Sum_l0, int_lt_self, bif_f]
   rw [take_all (Nat.le_refl _)])
 rw [e, hr]
theorem sumOf_eq {L : List Int} (hL : L.length ≤ 9223372036854775807) : F_impl_sumOf L = some (sumW L) := by
 unfold F_impl_sumOf
 obtain ⟨r, e, hr⟩ := loop_ex (body := F_impl_sumOf_l0 L) (s0 := (0, 0)) (L := L) (Q := fun r => r = sumW L) (fun i s => s = (sumW (L.take i), (i : Int))) hL rfl
  (by
   rintro i _ K a ha hi rfl hK
   simp only [F_impl_sumOf_l0, int_lt (get_lt ha), bif_t, ix_get ha, Option.bind_some, w64_succ hi]
   exact hK _ (by rw [sumW_step ha]))
  (by
   rintro _ K rfl
   refine ⟨sumW L, ?_, rfl⟩
   simp only [F_impl_sumOf_l0, int_lt_self, bif_f]
   rw [take_all (Nat.le_refl _)])
 rw [e, hr]
theorem allWithin_eq {L : List Int} (hL : L.length ≤ 9223372036854775807) (lo hi : Int) : F_impl_allWithin L lo hi = some (L.all fun x => decide (lo ≤ x ∧ x ≤ hi)) := by
 unfold F_impl_allWithin F_slices_ContainsFunc_Sint64_int64 F_slices_IndexFunc_Sint64_int64
 obtain ⟨r, e, hr⟩ := loop_ex (body := F_slices_IndexFunc_Sint64_int64_l0 L lo hi) (L := L) (s0 := 0) (Q := fun r => (!decide (0 ≤ r)) = L.all fun x => decide (lo ≤ x ∧ x ≤ hi)) (fun i s => s = (i : Int) ∧ ∀ x ∈ L.take i, decide (lo ≤ x ∧ x ≤ hi) = true) hL ⟨rfl, by simp⟩
  (by
   rintro i _ k a ha hi2 ⟨rfl, hI⟩ hk
   simp only [F_slices_IndexFunc_Sint64_int64_l0, F_impl_allWithin_1, int_lt (get_lt ha), bif_t, ix_get ha, Option.bind_some, within_eq, w64_succ hi2, nif]
   cases hp : decide (lo ≤ a ∧ a ≤ hi)
   ·rw [bif_f]
    refine ⟨_, rfl, ?_⟩
    rw [decide_eq_true (by omega)]
    have : (L.all fun x => decide (lo ≤ x ∧ x ≤ hi)) = false := List.all_eq_false.2 ⟨a, get_mem ha, by rw [hp]; simp⟩
    rw [this]; rfl
   ·rw [bif_t]
    refine hk _ ⟨rfl, fun x hx => ?_⟩
    rw [take_succ ha] at hx
    rcases List.mem_append.1 hx with hx | hx
    ·exact hI x hx
    ·rw [List.mem_singleton.1 hx]; exact hp)
  (by
   rintro _ k ⟨rfl, hI⟩
   rw [take_all (Nat.le_refl _)] at hI
   simp only [F_slices_IndexFunc_Sint64_int64_l0, int_lt_self, bif_f]
   refine ⟨_, rfl, ?_⟩
   rw [List.all_eq_true.2 hI]; rfl)
 rw [e]
 simp only [Option.bind_some, hr]
def gd (t : TTala) (i : Nat) : Bool := match t.2.1[i]?, t.2.2[i]? with
 | some g, some c => decide (1 ≤ g ∧ g ≤ 16) && (if i = 0 then decide (c = 1) else decide (2 ≤ c ∧ c ≤ 3))
 | _, _ => false
def talaOk (t : TTala) : Bool := nameOk t.1 && (decide (1 ≤ (t.2.1.length : Int) ∧ (t.2.1.length : Int) ≤ 8) && (decide (t.2.2.length = t.2.1.length) && ((List.range t.2.1.length).all (gd t) && decide (sumW t.2.1 ≤ 32))))
theorem range_all {p : Nat → Bool} {n : Nat} : (List.range n).all p = true ↔ ∀ i, i < n → p i = true := by
 rw [List.all_eq_true]
 exact ⟨fun h i hi => h i (List.mem_range.2 hi), fun h i hi => h i (List.mem_range.1 hi)⟩
theorem l17Ok_eq {t : TTala} (o : OkTala t) : F_spec_l17Ok t = some (talaOk t) := by
 obtain ⟨o0, o1, o2⟩ := o
 unfold F_spec_l17Ok talaOk
 rw [l01Name_eq _ o0, l00In_eq]
 simp only [Option.bind_some, nif]
 cases nameOk t.1
 ·rfl
 cases decide (1 ≤ (t.2.1.length : Int) ∧ (t.2.1.length : Int) ≤ 8)
 ·rfl
 by_cases hlen : t.2.2.length = t.2.1.length
 ·rw [decide_eq_false (show ¬ (t.2.2.length : Int) ≠ (t.2.1.length : Int) by omega), decide_eq_true hlen]
  simp only [bif_t, bif_f, Bool.true_and]
  obtain ⟨r, e, hr⟩ := loop_ex (body := F_spec_l17Ok_l0 t) (L := t.2.1) (s0 := 0) (Q := fun r => r = ((List.range t.2.1.length).all (gd t) && decide (sumW t.2.1 ≤ 32))) (fun i s => s = (i : Int) ∧ ∀ j, j < i → gd t j = true) o1.1 ⟨rfl, fun _ h => by omega⟩
   (by
    rintro i _ K g hg hi ⟨rfl, hI⟩ hK
    have hlt := get_lt hg
    obtain ⟨c, hc⟩ := get_some (L := t.2.2) (n := i) (by omega)
    have hgd : gd t i = (decide (1 ≤ g ∧ g ≤ 16) && (if i = 0 then decide (c = 1) else decide (2 ≤ c ∧ c ≤ 3))) := by unfold gd; rw [hg, hc]
    have bad : gd t i = false → ∃ r, (some false : Option Bool) = some r ∧ r = ((List.range t.2.1.length).all (gd t) && decide (sumW t.2.1 ≤ 32)) := by
     intro h
     have : (List.range t.2.1.length).all (gd t) = false := List.all_eq_false.2 ⟨i, List.mem_range.2 hlt, by rw [h]; simp⟩
     exact ⟨_, rfl, by rw [this]; rfl⟩
    have good : gd t i = true → ∃ r, K ((i + 1 : Nat) : Int) = some r ∧ r = ((List.range t.2.1.length).all (gd t) && decide (sumW t.2.1 ≤ 32)) := by
     intro h
     refine hK _ ⟨rfl, fun j hj => ?_⟩
     by_cases e : j = i
     ·rw [e]; exact h
     ·exact hI j (by omega)
    simp only [F_spec_l17Ok_l0, int_lt hlt, bif_t, ix_get hg, ix_get hc, Option.bind_some, l00In_eq, nif, w64_succ hi]
    cases h1 : decide (1 ≤ g ∧ g ≤ 16)
    ·exact bad (by rw [hgd, h1]; rfl)
    ·rw [bif_t]
     cases i with
     | zero =>
      rw [show decide (((0 : Nat) : Int) = 0) = true from rfl, show decide ((0 : Int) < ((0 : Nat) : Int)) = false from rfl, bif_t]
      by_cases h2 : c = 1
      ·rw [decide_eq_false (show ¬ c ≠ 1 by simpa using h2), bif_f, bif_f]
       exact good (by rw [hgd, h1, if_pos rfl, decide_eq_true h2]; rfl)
      ·rw [decide_eq_true (show c ≠ 1 from h2), bif_t]
       exact bad (by rw [hgd, h1, if_pos rfl, decide_eq_false h2]; rfl)
     | succ n =>
      rw [show decide (((n + 1 : Nat) : Int) = 0) = false from decide_eq_false (by omega), int_pos', bif_f, bif_t]
      cases h2 : decide (2 ≤ c ∧ c ≤ 3)
      ·exact bad (by rw [hgd, h1, if_neg (by omega), h2]; rfl)
      ·exact good (by rw [hgd, h1, if_neg (by omega), h2]; rfl))
   (by
    rintro _ K ⟨rfl, hI⟩
    simp only [F_spec_l17Ok_l0, int_lt_self, bif_f, l17Sum_eq o1.1, Option.bind_some]
    refine ⟨_, rfl, ?_⟩
    rw [range_all.2 hI]; rfl)
  rw [e, hr]
 ·rw [decide_eq_true (show (t.2.2.length : Int) ≠ (t.2.1.length : Int) by omega), decide_eq_false hlen]; rfl
theorem ValidTala_eq {t : TTala} (o : OkTala t) : F_impl_ValidTala t = some (talaOk t) := by
 obtain ⟨o0, o1, o2⟩ := o
 unfold F_impl_ValidTala talaOk F_impl_Tala_beats
 rw [IsName_eq _ o0, allWithin_eq o1.1, sumOf_eq o1.1]
 simp only [Option.bind_some, nif]
 cases nameOk t.1
 ·rfl
 by_cases hn : 1 ≤ (t.2.1.length : Int) ∧ (t.2.1.length : Int) ≤ 8
 ·rw [decide_eq_false (show ¬ (t.2.1.length : Int) < 1 by omega), decide_eq_false (show ¬ (8 : Int) < (t.2.1.length : Int) by omega), decide_eq_true hn]
  simp only [bif_t, bif_f, Bool.true_and]
  by_cases hlen : t.2.2.length = t.2.1.length
  ·rw [decide_eq_true (show (t.2.2.length : Int) = (t.2.1.length : Int) by omega), decide_eq_true hlen]
   obtain ⟨c, hc⟩ := get_some (L := t.2.2) (n := 0) (by omega)
   have hc2 : ix t.2.2 (0 : Int) = some c := ix_get hc
   have hsub : sub t.2.2 1 (t.2.2.length : Int) = t.2.2.drop 1 := by
    unfold sub
    rw [Int.toNat_natCast, List.take_length]; rfl
   rw [hc2, need_true (by omega), hsub, allWithin_eq (by rw [List.length_drop]; omega)]
   simp only [Option.bind_some, bif_t, Bool.true_and]
   have key : (List.range t.2.1.length).all (gd t) = ((t.2.1.all fun x => decide (1 ≤ x ∧ x ≤ 16)) && (decide (c = 1) && (t.2.2.drop 1).all fun x => decide (2 ≤ x ∧ x ≤ 3))) := by
    refine bool_ext ?_
    rw [range_all, Bool.and_eq_true, Bool.and_eq_true, List.all_eq_true, List.all_eq_true, decide_eq_true_iff]
    constructor
    ·intro h
     refine ⟨fun x hx => ?_, ?_, fun x hx => ?_⟩
     ·obtain ⟨i, hi⟩ := List.mem_iff_getElem?.1 hx
      obtain ⟨d, hd⟩ := get_some (L := t.2.2) (n := i) (by have := get_lt hi; omega)
      have := h i (get_lt hi)
      unfold gd at this
      rw [hi, hd, Bool.and_eq_true] at this
      exact this.1
     ·obtain ⟨g, hg⟩ := get_some (L := t.2.1) (n := 0) (by omega)
      have := h 0 (by omega)
      unfold gd at this
      rw [hg, hc, Bool.and_eq_true, if_pos rfl] at this
      exact of_decide_eq_true this.2
     ·obtain ⟨i, hi⟩ := List.mem_iff_getElem?.1 hx
      rw [List.getElem?_drop] at hi
      have hlt := get_lt hi
      obtain ⟨g, hg⟩ := get_some (L := t.2.1) (n := 1 + i) (by omega)
      have := h (1 + i) (by omega)
      unfold gd at this
      rw [hg, hi, Bool.and_eq_true, if_neg (by omega)] at this
      exact this.2
    ·rintro ⟨h1, h2, h3⟩ i hi
     obtain ⟨g, hg⟩ := get_some (L := t.2.1) (n := i) hi
     obtain ⟨d, hd⟩ := get_some (L := t.2.2) (n := i) (by omega)
     unfold gd
     rw [hg, hd, Bool.and_eq_true]
     refine ⟨h1 g (get_mem hg), ?_⟩
     split
     ·rename_i h0
      subst h0
      rw [hc] at hd; cases hd
      exact decide_eq_true h2
     ·rename_i h0
      refine h3 d (List.mem_iff_getElem?.2 ⟨i - 1, ?_⟩)
      rw [List.getElem?_drop, show 1 + (i - 1) = i by omega]; exact hd
   rw [key]
   have h32 : decide ((32 : Int) < sumW t.2.1) = !decide (sumW t.2.1 ≤ 32) := by
    by_cases h : sumW t.2.1 ≤ 32
    ·rw [decide_eq_true h, decide_eq_false (by omega)]; rfl
    ·rw [decide_eq_false h, decide_eq_true (by omega)]; rfl
   rw [h32]
   cases (t.2.1.all fun x => decide (1 ≤ x ∧ x ≤ 16)) <;> cases decide (sumW t.2.1 ≤ 32) <;> cases decide (c = 1) <;> simp
  ·rw [decide_eq_false (show ¬ (t.2.2.length : Int) = (t.2.1.length : Int) by omega), decide_eq_false hlen]
   cases (t.2.1.all fun x => decide (1 ≤ x ∧ x ≤ 16)) <;> cases decide ((32 : Int) < sumW t.2.1) <;> rfl
 ·rw [decide_eq_false hn]
  by_cases h1 : (t.2.1.length : Int) < 1
  ·rw [decide_eq_true h1]; rfl
  ·rw [decide_eq_false h1, decide_eq_true (show (8 : Int) < (t.2.1.length : Int) by omega)]; rfl
def cadOk (t : TTala) (sp st ph gap : Int) : Bool := talaOk t && (decide (1 ≤ sp ∧ sp ≤ 8) && (decide (0 ≤ st ∧ st ≤ w64 (w64 (sumW t.2.1 * sp) - 1)) && (decide (1 ≤ ph ∧ ph ≤ 64) && decide (0 ≤ gap ∧ gap ≤ 32))))
theorem cad_impl {t : TTala} (o : OkTala t) (sp st ph gap : Int) : ∃ c, F_impl_cadenceCode t sp st ph gap 0 = some c ∧ decide (c = 0) = cadOk t sp st ph gap := by
 unfold F_impl_cadenceCode cadOk F_impl_Tala_beats
 rw [ValidTala_eq o, sumOf_eq o.2.1.1]
 simp only [Option.bind_some, within_eq, nif]
 cases talaOk t
 ·exact ⟨_, rfl, rfl⟩
 cases decide (1 ≤ sp ∧ sp ≤ 8)
 ·exact ⟨_, rfl, rfl⟩
 cases decide (0 ≤ st ∧ st ≤ w64 (w64 (sumW t.2.1 * sp) - 1))
 ·exact ⟨_, rfl, rfl⟩
 cases decide (1 ≤ ph ∧ ph ≤ 64)
 ·exact ⟨_, rfl, rfl⟩
 cases decide (0 ≤ gap ∧ gap ≤ 32)
 ·exact ⟨_, rfl, rfl⟩
 ·exact ⟨_, rfl, rfl⟩
theorem cad_spec {t : TTala} (o : OkTala t) (sp st ph gap : Int) : ∃ c, F_spec_l19Start t sp st = some c ∧ F_spec_l19Phrase ph = some (decide (1 ≤ ph ∧ ph ≤ 64)) ∧ F_spec_l19Gap gap = some (decide (0 ≤ gap ∧ gap ≤ 32)) ∧ (decide (c = 0) && (decide (1 ≤ ph ∧ ph ≤ 64) && decide (0 ≤ gap ∧ gap ≤ 32))) = cadOk t sp st ph gap := by
 have e1 : F_spec_l19Phrase ph = some (decide (1 ≤ ph ∧ ph ≤ 64)) := by unfold F_spec_l19Phrase; rw [l00In_eq]; rfl
 have e2 : F_spec_l19Gap gap = some (decide (0 ≤ gap ∧ gap ≤ 32)) := by unfold F_spec_l19Gap; rw [l00In_eq]; rfl
 unfold F_spec_l19Start F_spec_l19Ask F_spec_l19Units F_spec_l17Beats cadOk
 rw [l17Ok_eq o, l17Sum_eq o.2.1.1]
 simp only [Option.bind_some, l00In_eq, nif]
 cases talaOk t
 ·exact ⟨_, rfl, e1, e2, rfl⟩
 cases decide (1 ≤ sp ∧ sp ≤ 8)
 ·exact ⟨_, rfl, e1, e2, rfl⟩
 cases decide (0 ≤ st ∧ st ≤ w64 (w64 (sumW t.2.1 * sp) - 1))
 ·exact ⟨_, rfl, e1, e2, rfl⟩
 ·exact ⟨_, rfl, e1, e2, by simp⟩
end Go.Ab
