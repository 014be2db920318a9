import Derived.Test.YtlboickhkhbffaaPS
import Derived.Test.YtlboickhkhbffaaPAdj
import Derived.Test.YtlboickhkhbffaaPWithin
import Derived.Sort.Walk0
set_option linter.unusedVariables false
set_option linter.unusedSimpArgs false
namespace Go.Ab
open Go.RowKit
abbrev Str := List UInt8
theorem nif {R : Type} {b : Bool} {x y : R} : (bif !b then x else y) = bif b then y else x := by cases b <;> rfl
theorem bool_ext {a b : Bool} (h : a = true ↔ b = true) : a = b := by cases a <;> cases b <;> simp_all
theorem dec_le {a b : Int} : decide (b ≤ a) = !decide (a < b) := by
 by_cases h : a < b
 ·rw [decide_eq_true h, decide_eq_false (by omega)]; rfl
 ·rw [decide_eq_false h, decide_eq_true (by omega)]; rfl
theorem int_pos' (n : Nat) : decide ((0 : Int) < ((n + 1 : Nat) : Int)) = true := decide_eq_true (by omega)
theorem adj_of {α : Type} {one : α → Bool} {bef : α → α → Bool} : ∀ {A : List α} {p : Option α}, (∀ x ∈ A, one x = true) → (∀ (i : Nat) x y, A[i]? = some x → A[i + 1]? = some y → bef x y = true) → (∀ q x, p = some q → A[0]? = some x → bef q x = true) → adj one bef p A = true
 | [], p, _, _, _ => by cases p <;> rfl
 | a :: A, p, h1, h2, h3 => by
  have ih := adj_of (A := A) (p := some a) (fun x hx => h1 x (List.mem_cons_of_mem _ hx)) (fun i x y hx hy => h2 (i + 1) x y (by simpa using hx) (by simpa using hy)) (fun q x hq hx => by
   cases hq
   exact h2 0 a x rfl (by simpa using hx))
  cases p with
  | none => simp [adj, h1 a List.mem_cons_self, ih]
  | some q => simp [adj, h1 a List.mem_cons_self, h3 q a rfl rfl, ih]
theorem adj_iff {α : Type} {one : α → Bool} {bef : α → α → Bool} {A : List α} : adj one bef none A = true ↔ (∀ x ∈ A, one x = true) ∧ ∀ (i : Nat) x y, A[i]? = some x → A[i + 1]? = some y → bef x y = true :=
 ⟨fun h => adj_all h, fun h => adj_of h.1 h.2 fun q x hq => by cases hq⟩
def rises (L : List Int) (lo hi : Int) : Bool := adj (fun x => decide (lo ≤ x ∧ x ≤ hi)) (fun a b => decide (a < b)) none L
theorem l00Rises_eq {L : List Int} (hL : L.length ≤ 9223372036854775807) (lo hi : Int) : F_spec_l00Rises L lo hi = some (rises L lo hi) := by
 unfold F_spec_l00Rises rises
 have := loop_adj (A := L) (body := F_spec_l00Rises_l0 L lo hi) (one := fun x => decide (lo ≤ x ∧ x ≤ hi)) (bef := fun a b => decide (a < b)) (fin := true) hL ?_ ?_ ?_
 ·rw [this, Bool.and_true]
 ·intro k a ha
  have h0 : (0 : Int) = ((0 : Nat) : Int) := rfl
  rw [h0]
  simp only [F_spec_l00Rises_l0, int_lt (get_lt ha), bif_t, ix_get ha, Option.bind_some, l00In_eq, nif]
  rfl
 ·intro i k q a hq ha hi
  simp only [F_spec_l00Rises_l0, int_lt (get_lt ha), bif_t, ix_get ha, Option.bind_some, l00In_eq, nif, int_pos', w64_pred (show i < 9223372036854775807 by omega), ix_get hq, w64_succ hi, dec_le]
 ·intro k
  simp only [F_spec_l00Rises_l0, int_lt_self, bif_f]
theorem increasing_eq {L : List Int} (hL : L.length ≤ 9223372036854775807) (h1 : 1 ≤ L.length) : F_impl_increasing L = some (adj (fun _ => true) (fun a b => decide (a < b)) none L) := by
 unfold F_impl_increasing
 have key : ∀ (d i : Nat), i + 1 + d = L.length → ∀ N, d < N → iter (F_impl_increasing_l0 L) N ((i + 1 : Nat) : Int) = some (adj (fun _ => true) (fun a b => decide (a < b)) L[i]? (L.drop (i + 1))) := by
  intro d
  induction d with
  | zero =>
   intro i hi N hN
   obtain ⟨N, rfl⟩ : ∃ M, N = M + 1 := ⟨N - 1, by omega⟩
   have hn : decide (((i + 1 : Nat) : Int) < (L.length : Int)) = false := decide_eq_false (by omega)
   rw [iter, List.drop_eq_nil_of_le (by omega)]
   simp only [F_impl_increasing_l0, hn, bif_f]
   cases L[i]? <;> rfl
  | succ d ih =>
   intro i hi N hN
   obtain ⟨N, rfl⟩ : ∃ M, N = M + 1 := ⟨N - 1, by omega⟩
   obtain ⟨a, ha⟩ := get_some (L := L) (n := i + 1) (by omega)
   obtain ⟨q, hq⟩ := get_some (L := L) (n := i) (by omega)
   have h2 := ih (i + 1) (by omega) N (by omega)
   rw [iter, drop_cons ha, hq]
   simp only [F_impl_increasing_l0, int_lt (get_lt ha), bif_t, ix_get ha, Option.bind_some, w64_pred (show i < 9223372036854775807 by omega), ix_get hq, w64_succ (show i + 1 < 9223372036854775807 by omega), dec_le, nif]
   rw [h2, ha]
   simp only [adj, Bool.true_and]
   cases decide (q < a) <;> rfl
 have h0 := key (L.length - 1) 0 (by omega) lim (lt_lim (by omega))
 obtain ⟨a, ha⟩ := get_some (L := L) (n := 0) (by omega)
 rw [ha] at h0
 have e : adj (fun _ => true) (fun a b => decide (a < b)) (some a) (L.drop (0 + 1)) = adj (fun _ => true) (fun a b => decide (a < b)) none L := by
  have : L = a :: L.drop 1 := by have := drop_cons ha; simpa using this
  conv => rhs; rw [this]
  rfl
 rw [e] at h0
 exact h0
def scaleOk (L : List Int) : Bool := decide ((5 : Int) ≤ (L.length : Int)) && (rises L 0 11 && decide (L[0]? = some 0))
theorem l03Scale_eq {L : List Int} (hL : L.length ≤ 9223372036854775807) : F_spec_l03Scale L = some (scaleOk L) := by
 unfold F_spec_l03Scale scaleOk
 rw [l00Rises_eq hL]
 by_cases h5 : (5 : Int) ≤ L.length
 ·obtain ⟨a, ha⟩ := get_some (L := L) (n := 0) (by omega)
  have ha2 : ix L (0 : Int) = some a := ix_get ha
  rw [decide_eq_true h5, bif_t, Option.bind_some, ha2, ha]
  cases rises L 0 11 <;> simp
 ·rw [decide_eq_false h5]; rfl
theorem ValidScale_eq {L : List Int} (hL : L.length ≤ 9223372036854775807) : F_impl_ValidScale L = some (scaleOk L) := by
 unfold F_impl_ValidScale scaleOk
 by_cases h5 : (5 : Int) ≤ L.length
 ·obtain ⟨a, ha⟩ := get_some (L := L) (n := 0) (by omega)
  obtain ⟨z, hz⟩ := get_some (L := L) (n := L.length - 1) (by omega)
  have ha2 : ix L (0 : Int) = some a := ix_get ha
  have hz2 : ix L (w64 ((L.length : Int) - 1)) = some z := by
   rw [show (L.length : Int) - 1 = ((L.length - 1 : Nat) : Int) by omega, w64_id (by omega)]
   exact ix_get hz
  rw [increasing_eq hL (by omega), decide_eq_true h5, bif_t, ha2, Option.bind_some, ha]
  simp only [Bool.true_and, Option.some.injEq, Option.bind_some, hz2]
  by_cases h0 : a = 0
  ·rw [decide_eq_true h0, bif_t, Bool.and_true]
   have : (bif adj (fun _ => true) (fun a b : Int => decide (a < b)) none L then some (decide (z < 12)) else some false) = some (adj (fun _ => true) (fun a b : Int => decide (a < b)) none L && decide (z < 12)) := by
    cases adj (fun _ => true) (fun a b : Int => decide (a < b)) none L <;> rfl
   rw [this]
   congr 1
   refine bool_ext ?_
   unfold rises
   rw [Bool.and_eq_true, adj_iff, adj_iff, decide_eq_true_iff]
   constructor
   ·rintro ⟨⟨_, h1⟩, h2⟩
    have mono : ∀ (d i : Nat) x y, L[i]? = some x → L[i + d]? = some y → x + d ≤ y := by
     intro d
     induction d with
     | zero => intro i x y hx hy; rw [Nat.add_zero, hx] at hy; cases hy; simp
     | succ d ih =>
      intro i x y hx hy
      obtain ⟨m, hm⟩ := get_some (L := L) (n := i + d) (by have := get_lt hy; omega)
      have h3 := ih i x m hx hm
      have h4 := of_decide_eq_true (h1 (i + d) m y hm hy)
      omega
    refine ⟨fun x hx => ?_, h1⟩
    obtain ⟨i, hi⟩ := List.mem_iff_getElem?.1 hx
    have hlt := get_lt hi
    have q1 := mono i 0 a x ha (by rw [Nat.zero_add]; exact hi)
    have q2 := mono (L.length - 1 - i) i x z hi (by rw [show i + (L.length - 1 - i) = L.length - 1 by omega]; exact hz)
    exact decide_eq_true (by omega)
   ·rintro ⟨h1, h2⟩
    refine ⟨⟨fun _ _ => rfl, h2⟩, ?_⟩
    have := of_decide_eq_true (h1 z (get_mem hz))
    omega
  ·rw [decide_eq_false h0, bif_f, Bool.and_false]
 ·rw [decide_eq_false h5]; rfl
theorem l00Has_eq {L : List Int} (hL : L.length ≤ 9223372036854775807) (t : Int) : F_spec_l00Has L t = some (decide (t ∈ L)) := by
 unfold F_spec_l00Has
 obtain ⟨r, e, hr⟩ := loop_ex (body := F_spec_l00Has_l0 L t) (L := L) (s0 := 0) (Q := fun r => r = decide (t ∈ L)) (fun i s => s = (i : Int) ∧ ∀ x ∈ L.take i, x ≠ t) hL ⟨rfl, by simp⟩
  (by
   rintro i _ k a ha hi ⟨rfl, hI⟩ hk
   simp only [F_spec_l00Has_l0, int_lt (get_lt ha), bif_t, ix_get ha, Option.bind_some, w64_succ hi, bif_dec]
   split
   ·rename_i h
    exact ⟨_, rfl, (decide_eq_true (by rw [← h]; exact get_mem ha)).symm⟩
   ·rename_i h
    refine hk _ ⟨rfl, fun x hx => ?_⟩
    rw [take_succ ha] at hx
    rcases List.mem_append.1 hx with hx | hx
    ·exact hI x hx
    ·rw [List.mem_singleton.1 hx]; exact h)
  (by
   rintro _ k ⟨rfl, hI⟩
   rw [take_all (Nat.le_refl _)] at hI
   simp only [F_spec_l00Has_l0, int_lt_self, bif_f]
   exact ⟨_, rfl, (decide_eq_false fun h => hI t h rfl).symm⟩)
 rw [e, hr]
theorem ContainsI_eq {L : List Int} (hL : L.length ≤ 9223372036854775807) (t : Int) : F_slices_Contains_Sint64_int64 L t = some (decide (t ∈ L)) := by
 unfold F_slices_Contains_Sint64_int64 F_slices_Index_Sint64_int64
 obtain ⟨r, e, hr⟩ := loop_ex (body := F_slices_Index_Sint64_int64_l0 L t) (L := L) (s0 := 0) (Q := fun r => decide (0 ≤ r) = decide (t ∈ L)) (fun i s => s = (i : Int) ∧ ∀ x ∈ L.take i, x ≠ t) hL ⟨rfl, by simp⟩
  (by
   rintro i _ k a ha hi ⟨rfl, hI⟩ hk
   simp only [F_slices_Index_Sint64_int64_l0, int_lt (get_lt ha), bif_t, ix_get ha, Option.bind_some, w64_succ hi, bif_dec]
   split
   ·rename_i h
    exact ⟨_, rfl, by rw [decide_eq_true (by omega), decide_eq_true (by rw [h]; exact get_mem ha)]⟩
   ·rename_i h
    refine hk _ ⟨rfl, fun x hx => ?_⟩
    rw [take_succ ha] at hx
    rcases List.mem_append.1 hx with hx | hx
    ·exact hI x hx
    ·rw [List.mem_singleton.1 hx]; exact fun e => h e.symm)
  (by
   rintro _ k ⟨rfl, hI⟩
   rw [take_all (Nat.le_refl _)] at hI
   simp only [F_slices_Index_Sint64_int64_l0, int_lt_self, bif_f]
   exact ⟨_, rfl, by rw [decide_eq_false (by omega), decide_eq_false fun h => hI t h rfl]⟩)
 rw [e, Option.bind_some, hr]
def toneIn (a : TRaga) (t : Int) : Bool := decide (t ∈ a.2.1) || decide (t ∈ a.2.2.1)
theorem l05Tone_eq {a : TRaga} (h1 : a.2.1.length ≤ 9223372036854775807) (h2 : a.2.2.1.length ≤ 9223372036854775807) (t : Int) : F_spec_l05Tone a t = some (toneIn a t) := by
 unfold F_spec_l05Tone toneIn
 rw [l00Has_eq h1, l00Has_eq h2]
 simp only [Option.bind_some]
 cases decide (t ∈ a.2.1) <;> rfl
theorem hasTone_eq {a : TRaga} (h1 : a.2.1.length ≤ 9223372036854775807) (h2 : a.2.2.1.length ≤ 9223372036854775807) (t : Int) : F_impl_Raga_hasTone a t = some (toneIn a t) := by
 unfold F_impl_Raga_hasTone toneIn
 rw [ContainsI_eq h1, ContainsI_eq h2]
 simp only [Option.bind_some]
 cases decide (t ∈ a.2.1) <;> rfl
def noteOk (a : TNote) : Bool := decide (-12 ≤ a.1 ∧ a.1 ≤ 23) && decide (1 ≤ a.2 ∧ a.2 ≤ 64)
def melOk (L : List TNote) : Bool := adj noteOk (fun _ _ => true) none L && decide ((L.length : Int) ≤ 48)
theorem l09Ok_eq {L : List TNote} (hL : L.length ≤ 9223372036854775807) : F_spec_l09Ok L = some (melOk L) := by
 unfold F_spec_l09Ok melOk
 have st : ∀ (i : Nat) k a, L[i]? = some a → i < 9223372036854775807 → F_spec_l09Ok_l0 L k (i : Int) = bif noteOk a then k ((i + 1 : Nat) : Int) else some false := by
  intro i k a ha hi
  simp only [F_spec_l09Ok_l0, F_spec_l03Pitch, F_spec_l09Length, int_lt (get_lt ha), bif_t, ix_get ha, Option.bind_some, l00In_eq, nif, w64_succ hi, noteOk]
  cases decide (-12 ≤ a.1 ∧ a.1 ≤ 23) <;> rfl
 refine loop_adj hL ?_ ?_ ?_
 ·intro k a ha; exact st 0 k a ha (by omega)
 ·intro i k q a hq ha hi; rw [st (i + 1) k a ha hi]; rfl
 ·intro k; simp only [F_spec_l09Ok_l0, int_lt_self, bif_f]
theorem ValidMelody_eq {L : List TNote} (hL : L.length ≤ 9223372036854775807) : F_impl_ValidMelody L = some (melOk L) := by
 have st : ∀ (i : Nat) k a, L[i]? = some a → i < 9223372036854775807 → F_impl_ValidMelody_l0 L k (i : Int) = bif noteOk a then k ((i + 1 : Nat) : Int) else some false := by
  intro i k a ha hi
  simp only [F_impl_ValidMelody_l0, F_impl_pitchOk, F_impl_lengthOk, int_lt (get_lt ha), bif_t, ix_get ha, Option.bind_some, within_eq, nif, w64_succ hi, noteOk]
  cases decide (-12 ≤ a.1 ∧ a.1 ≤ 23) <;> rfl
 have e : loop (F_impl_ValidMelody_l0 L) 0 = some (adj noteOk (fun _ _ => true) none L && true) := by
  refine loop_adj hL ?_ ?_ ?_
  ·intro k a ha; exact st 0 k a ha (by omega)
  ·intro i k q a hq ha hi; rw [st (i + 1) k a ha hi]; rfl
  ·intro k; simp only [F_impl_ValidMelody_l0, int_lt_self, bif_f]
 unfold F_impl_ValidMelody melOk
 rw [e]
 by_cases h : (48 : Int) < L.length
 ·rw [decide_eq_true h, bif_t, decide_eq_false (by omega), Bool.and_false]
 ·rw [decide_eq_false h, bif_f, decide_eq_true (by omega)]
end Go.Ab
