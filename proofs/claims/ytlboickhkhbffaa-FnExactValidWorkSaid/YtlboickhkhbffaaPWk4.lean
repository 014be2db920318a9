import Derived.Test.YtlboickhkhbffaaPWk3
set_option linter.unusedVariables false
set_option linter.unusedSimpArgs false
namespace Go.Ab
open Go.RowKit
def tone (p : Int) : Int := Int.tmod (w64 ((Int.tmod p 12) + 12)) 12
theorem l03Tone_eq (p : Int) : F_spec_l03Tone p = some (tone p) := rfl
theorem ToneOf_eq (p : Int) : F_impl_ToneOf p = some (tone p) := rfl
def forb (a : TRaga) (s t : Int) : Bool := a.2.2.2.2.2.any fun q => decide (q = [s, t])
theorem two_eq (x y s t : Int) : decide (([x, y] : List Int) = [s, t]) = (decide (x = s) && decide (y = t)) := by
 by_cases h1 : x = s <;> by_cases h2 : y = t <;> simp [h1, h2]
theorem forb_spec {a : TRaga} (hF : a.2.2.2.2.2.length ≤ 9223372036854775807) (h2 : ∀ q ∈ a.2.2.2.2.2, ∃ x y, q = [x, y]) (s t : Int) : F_spec_l05Reason_j1 a s t = some (if forb a s t = true then 5 else 0) := by
 unfold F_spec_l05Reason_j1
 obtain ⟨r, e, hr⟩ := loop_ex (body := F_spec_l05Reason_l2 a s t) (s0 := 0) (L := a.2.2.2.2.2) (Q := fun r => r = if forb a s t = true then 5 else 0) (fun i s' => s' = (i : Int) ∧ ∀ q ∈ a.2.2.2.2.2.take i, decide (q = [s, t]) = false) hF ⟨rfl, by simp⟩
  (by
   rintro i _ k q hq hi ⟨rfl, hI⟩ hk
   obtain ⟨x, y, rfl⟩ := h2 q (get_mem hq)
   have bad : decide (([x, y] : List Int) = [s, t]) = true → forb a s t = true := fun h => List.any_eq_true.2 ⟨_, get_mem hq, h⟩
   have next : decide (([x, y] : List Int) = [s, t]) = false → ∃ r, k ((i + 1 : Nat) : Int) = some r ∧ r = if forb a s t = true then 5 else 0 := by
    intro h
    refine hk _ ⟨rfl, fun z hz => ?_⟩
    rw [take_succ hq] at hz
    rcases List.mem_append.1 hz with hz | hz
    ·exact hI z hz
    ·rw [List.mem_singleton.1 hz]; exact h
   simp only [F_spec_l05Reason_l2, int_lt (get_lt hq), bif_t, ix_get hq, Option.bind_some, ix0, ix1, w64_succ hi]
   rw [two_eq] at bad next
   cases h1 : decide (x = s)
   ·rw [bif_f]; exact next (by rw [h1]; rfl)
   ·rw [bif_t]
    cases h3 : decide (y = t)
    ·rw [bif_f]; exact next (by rw [h1, h3]; rfl)
    ·rw [bif_t]; exact ⟨_, rfl, by rw [if_pos (bad (by rw [h1, h3]; rfl))]⟩)
  (by
   rintro _ k ⟨rfl, hI⟩
   rw [take_all (Nat.le_refl _)] at hI
   simp only [F_spec_l05Reason_l2, int_lt_self, bif_f]
   have : forb a s t = false := List.any_eq_false.2 fun q hq => by rw [hI q hq]; simp
   exact ⟨_, rfl, by rw [this]; rfl⟩)
 rw [e, hr]
theorem forb_impl {a : TRaga} (hF : a.2.2.2.2.2.length ≤ 9223372036854775807) (h2 : ∀ q ∈ a.2.2.2.2.2, ∃ x y, q = [x, y]) (s t : Int) : F_slices_ContainsFunc_SSint64_Sint64 a.2.2.2.2.2 s t = some (forb a s t) := by
 unfold F_slices_ContainsFunc_SSint64_Sint64 F_slices_IndexFunc_SSint64_Sint64
 obtain ⟨r, e, hr⟩ := loop_ex (body := F_slices_IndexFunc_SSint64_Sint64_l0 a.2.2.2.2.2 s t) (s0 := 0) (L := a.2.2.2.2.2) (Q := fun r => decide (0 ≤ r) = forb a s t) (fun i s' => s' = (i : Int) ∧ ∀ q ∈ a.2.2.2.2.2.take i, decide (q = [s, t]) = false) hF ⟨rfl, by simp⟩
  (by
   rintro i _ k q hq hi ⟨rfl, hI⟩ hk
   obtain ⟨x, y, rfl⟩ := h2 q (get_mem hq)
   have e1 : F_impl_Raga_reason_1 [x, y] s t = some (decide (([x, y] : List Int) = [s, t])) := by
    unfold F_impl_Raga_reason_1
    rw [two_eq]
    simp only [ix0, ix1, Option.bind_some]
    cases decide (x = s) <;> rfl
   simp only [F_slices_IndexFunc_SSint64_Sint64_l0, int_lt (get_lt hq), bif_t, ix_get hq, Option.bind_some, e1, w64_succ hi]
   cases h : decide (([x, y] : List Int) = [s, t])
   ·rw [bif_f]
    refine hk _ ⟨rfl, fun z hz => ?_⟩
    rw [take_succ hq] at hz
    rcases List.mem_append.1 hz with hz | hz
    ·exact hI z hz
    ·rw [List.mem_singleton.1 hz]; exact h
   ·rw [bif_t]
    have : forb a s t = true := List.any_eq_true.2 ⟨_, get_mem hq, h⟩
    exact ⟨_, rfl, by rw [this, decide_eq_true (by omega)]⟩)
  (by
   rintro _ k ⟨rfl, hI⟩
   rw [take_all (Nat.le_refl _)] at hI
   simp only [F_slices_IndexFunc_SSint64_Sint64_l0, int_lt_self, bif_f]
   have : forb a s t = false := List.any_eq_false.2 fun q hq => by rw [hI q hq]; simp
   exact ⟨_, rfl, by rw [this]; rfl⟩)
 rw [e, Option.bind_some, hr]
theorem reason_ex {a : TRaga} (o : OkRaga a) (h2 : ∀ q ∈ a.2.2.2.2.2, ∃ x y, q = [x, y]) {p q : Int} (hp : -100 ≤ p ∧ p ≤ 100) (hq : -100 ≤ q ∧ q ≤ 100) : ∃ r, F_spec_l05Reason a p q = some r ∧ F_impl_Raga_reason a p q = some r := by
 obtain ⟨o0, o1, o2, _, _, o5⟩ := o
 unfold F_spec_l05Reason F_impl_Raga_reason
 simp only [l03Tone_eq, ToneOf_eq, Option.bind_some, l05Tone_eq o1.1 o2.1, hasTone_eq o1.1 o2.1]
 cases h1 : toneIn a (tone p)
 ·exact ⟨1, rfl, rfl⟩
 simp only [Bool.not_true, bif_f]
 cases h3 : toneIn a (tone q)
 ·exact ⟨1, rfl, rfl⟩
 simp only [Bool.not_true, bif_f]
 unfold F_impl_Raga_reason_j0 F_spec_l00Max F_impl_abs
 rw [bif_f]
 have w1 : w64 (p - q) = p - q := w64_id (by omega)
 have w2 : w64 (q - p) = q - p := w64_id (by omega)
 have w3 : w64 (0 - (p - q)) = q - p := by rw [w64_id (by omega)]; omega
 rw [w1, w2, w3]
 have tail : F_spec_l05Reason_j0 a p q (tone p) (tone q) = F_impl_Raga_reason_j1 a p q (tone p) (tone q) false := by
  unfold F_spec_l05Reason_j0 F_impl_Raga_reason_j1
  rw [bif_f]
  have j2 : F_impl_Raga_reason_j2 a (tone p) (tone q) false = F_spec_l05Reason_j1 a (tone p) (tone q) := by
   unfold F_impl_Raga_reason_j2
   rw [forb_spec o5.1 h2, forb_impl o5.1 h2, bif_f, Option.bind_some]
   cases forb a (tone p) (tone q) <;> rfl
  rw [← j2, l00Has_eq o2.1, ContainsI_eq o2.1]
  simp only [Option.bind_some]
  cases decide (q < p)
  ·rfl
  ·rw [bif_t, bif_t]
   cases decide (tone q ∈ a.2.2.1) <;> rfl
 have jt : F_impl_Raga_reason_j1 a p q (tone p) (tone q) true = some 3 := rfl
 rw [l00Has_eq o1.1, ContainsI_eq o1.1, tail]
 have jj : ∃ r, F_impl_Raga_reason_j1 a p q (tone p) (tone q) false = some r := by
  rw [← tail]
  unfold F_spec_l05Reason_j0
  rw [forb_spec o5.1 h2, l00Has_eq o2.1]
  simp only [Option.bind_some]
  cases decide (q < p) <;> cases decide (tone q ∈ a.2.2.1) <;> exact ⟨_, rfl⟩
 obtain ⟨r0, hr0⟩ := jj
 simp only [Option.bind_some, hr0, jt]
 have hM : (if q - p > p - q then q - p else p - q) = (if p - q < q - p then q - p else p - q) := rfl
 by_cases hlt : q - p < p - q
 ·rw [decide_eq_true hlt, bif_t, if_neg (by omega)]
  simp only [Option.bind_some]
  cases decide (12 < p - q)
  ·rw [bif_f, bif_f]
   cases decide (p < q)
   ·exact ⟨r0, rfl, rfl⟩
   ·cases decide (tone q ∈ a.2.1)
    ·exact ⟨3, rfl, by simp [jt]⟩
    ·exact ⟨r0, rfl, by simp [hr0]⟩
  ·exact ⟨2, rfl, rfl⟩
 ·rw [decide_eq_false hlt, bif_f]
  have hA : (if q - p > p - q then q - p else p - q) = q - p := by split <;> omega
  rw [hA]
  simp only [Option.bind_some]
  cases decide (12 < q - p)
  ·rw [bif_f, bif_f]
   cases decide (p < q)
   ·exact ⟨r0, rfl, rfl⟩
   ·cases decide (tone q ∈ a.2.1)
    ·exact ⟨3, rfl, by simp [jt]⟩
    ·exact ⟨r0, rfl, by simp [hr0]⟩
  ·exact ⟨2, rfl, rfl⟩
noncomputable def rsn (a : TRaga) (p q : Int) : Int := (F_spec_l05Reason a p q).getD 1
theorem reason_eq {a : TRaga} (o : OkRaga a) (h2 : ∀ q ∈ a.2.2.2.2.2, ∃ x y, q = [x, y]) {p q : Int} (hp : -100 ≤ p ∧ p ≤ 100) (hq : -100 ≤ q ∧ q ≤ 100) : F_spec_l05Reason a p q = some (rsn a p q) ∧ F_impl_Raga_reason a p q = some (rsn a p q) := by
 obtain ⟨r, e1, e2⟩ := reason_ex o h2 hp hq
 have : rsn a p q = r := by unfold rsn; rw [e1]; rfl
 rw [this]; exact ⟨e1, e2⟩
end Go.Ab
