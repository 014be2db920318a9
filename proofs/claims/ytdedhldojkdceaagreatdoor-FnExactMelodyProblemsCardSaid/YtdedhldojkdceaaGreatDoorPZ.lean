import Derived.Test.YtdedhldojkdceaaGreatDoorPL
import Derived.Test.YtdedhldojkdceaaGreatDoorPS
import Derived.Sort.Walk0
import Derived.Lib.ItoaNum
import Derived.Test.YtdedhldojkdceaaGreatDoorGT
namespace Go.Ab
abbrev Str := List UInt8
end Go.Ab
set_option linter.unusedVariables false
set_option linter.unusedSimpArgs false
namespace Go.Ab
open Go.RowKit
def nb (b : UInt8) : Bool := decide ((97 ≤ b.toNat ∧ b.toNat ≤ 122) ∨ (48 ≤ b.toNat ∧ b.toNat ≤ 57))
def lowHead : List UInt8 → Bool
 | [] => false
 | b :: _ => decide (97 ≤ b.toNat ∧ b.toNat ≤ 122)
def nameOk (s : List UInt8) : Bool := decide (s.length ≤ 10) && (lowHead s && s.all nb)
theorem l01Small_eq (c : Int) : F_spec_l01Small c = some (decide (97 ≤ c ∧ c ≤ 122)) := by
 unfold F_spec_l01Small
 by_cases h : 97 ≤ c <;> simp [h]
theorem l01Digit_eq (c : Int) : F_spec_l01Digit c = some (decide (48 ≤ c ∧ c ≤ 57)) := by
 unfold F_spec_l01Digit
 by_cases h : 48 ≤ c <;> simp [h]
theorem l01Name_eq (s : List UInt8) (hs : s.length ≤ 9223372036854775807) : F_spec_l01Name s = some (nameOk s) := by
 unfold F_spec_l01Name
 cases s with
 | nil => rfl
 | cons b t =>
  have e : loop (F_spec_l01Name_l0 (b :: t)) 0 = some ((b :: t).all nb) := by
   refine loop_all nb hs ?_ ?_
   ·intro i k a ha hi
    simp only [F_spec_l01Name_l0, int_lt (get_lt ha), ix_get ha, Option.bind_some, bif_t, l01Small_eq, l01Digit_eq, w64_succ hi, ← decide_not, bif_dec, nb]
    repeat' split
    all_goals first | rfl | (exfalso; omega)
   ·intro k; simp [F_spec_l01Name_l0]
  rw [e]
  simp only [reduceCtorEq, decide_false, bif_f, ix_zero, Option.bind_some, l01Small_eq, ← decide_not, bif_dec, nameOk, lowHead]
  split
  ·rename_i h; rw [decide_eq_false (by omega)]; rfl
  ·rename_i h
   rw [decide_eq_true (by omega)]
   split
   ·rename_i h2; rw [decide_eq_false (by omega)]; rfl
   ·rename_i h2; rw [decide_eq_true (by omega)]; rfl
theorem onlyNameBytes_eq (s : List UInt8) (hs : s.length ≤ 9223372036854775807) : F_impl_onlyNameBytes s = some (s.all nb) := by
 unfold F_impl_onlyNameBytes
 refine loop_all nb hs ?_ ?_
 ·intro i k a ha hi
  simp only [F_impl_onlyNameBytes_l0, int_lt (get_lt ha), ix_get ha, Option.bind_some, bif_t, w64_succ hi, bif_dec, nb]
  repeat' split
  all_goals first | rfl | (exfalso; omega)
 ·intro k; simp [F_impl_onlyNameBytes_l0]
theorem IsName_eq (s : List UInt8) (hs : s.length ≤ 9223372036854775807) : F_impl_IsName s = some (nameOk s) := by
 unfold F_impl_IsName
 rw [onlyNameBytes_eq s hs]
 cases s with
 | nil => rfl
 | cons b t =>
  simp only [ix_zero, Option.bind_some, bif_dec, nameOk, lowHead]
  split
  ·rename_i h; simp at h; omega
  ·split
   ·rename_i h; rw [decide_eq_false (by omega)]; rfl
   ·rename_i h
    rw [decide_eq_true (by omega)]
    split
    ·rename_i h2; rw [decide_eq_false (by omega)]; rfl
    ·split
     ·rename_i h2; rw [decide_eq_false (by omega)]; rfl
     ·rw [decide_eq_true (by omega)]; rfl
end Go.Ab
set_option linter.unusedVariables false
set_option linter.unusedSimpArgs false
namespace Go.Ab
open Go.RowKit
section
variable {α : Type}
def adj (one : α → Bool) (bef : α → α → Bool) : Option α → List α → Bool
 | _, [] => true
 | none, x :: t => one x && adj one bef (some x) t
 | some q, x :: t => one x && (bef q x && adj one bef (some x) t)
def prevA (A : List α) : Nat → Option α
 | 0 => none
 | n + 1 => A[n]?
theorem loop_adj {A : List α} {one : α → Bool} {bef : α → α → Bool} {fin : Bool} {body : (Int → Option Bool) → Int → Option Bool} (hA : A.length ≤ 9223372036854775807)
  (first : ∀ k a, A[0]? = some a → body k 0 = bif one a then k 1 else some false)
  (more : ∀ (i : Nat) k q a, A[i]? = some q → A[i + 1]? = some a → i + 1 < 9223372036854775807 → body k ((i + 1 : Nat) : Int) = bif one a then (bif bef q a then k ((i + 2 : Nat) : Int) else some false) else some false)
  (done : ∀ k, body k (A.length : Int) = some fin) : loop body 0 = some (adj one bef none A && fin) := by
 have := loop_at (L := A) (body := body) (fun i => adj one bef (prevA A i) (A.drop i) && fin) hA ?_ ?_
 ·exact this
 ·intro i k a ha hi hk
  rw [drop_cons ha]
  cases i with
  | zero =>
   have h1 := first k a ha
   have hp : prevA A 1 = some a := ha
   rw [hp] at hk
   show body k 0 = _
   rw [h1]
   simp only [prevA, adj]
   cases one a
   ·rfl
   ·exact hk
  | succ n =>
   obtain ⟨q, hq⟩ := get_some (L := A) (n := n) (by have := get_lt ha; omega)
   have h1 := more n k q a hq ha hi
   have hp : prevA A (n + 1 + 1) = some a := ha
   rw [hp] at hk
   rw [h1]
   simp only [prevA, hq, adj]
   cases one a
   ·rfl
   ·cases bef q a
    ·rfl
    ·exact hk
 ·intro k
  rw [done, List.drop_length]
  cases prevA A A.length <;> simp [adj]
end
theorem adj_all {α : Type} {one : α → Bool} {bef : α → α → Bool} : ∀ {A : List α} {p : Option α}, adj one bef p A = true → (∀ x ∈ A, one x = true) ∧ (∀ (i : Nat) x y, A[i]? = some x → A[i + 1]? = some y → bef x y = true)
 | [], p, h => by simp
 | a :: A, p, h => by
  have h2 : one a = true ∧ adj one bef (some a) A = true := by
   cases p with
   | none => simpa [adj] using h
   | some q => simp [adj] at h; exact ⟨h.1, h.2.2⟩
  obtain ⟨k1, k2⟩ := adj_all (A := A) h2.2
  refine ⟨fun x hx => ?_, fun i x y hx hy => ?_⟩
  ·rcases List.mem_cons.1 hx with h | h
   ·rw [h]; exact h2.1
   ·exact k1 x h
  ·cases i with
   | zero =>
    simp at hx hy; subst hx
    cases A with
    | nil => simp at hy
    | cons b A =>
     simp at hy; subst hy
     have := h2.2
     simp [adj] at this; exact this.2.1
   | succ i => simp at hx hy; exact k2 i x y hx hy
end Go.Ab
set_option linter.unusedVariables false
set_option linter.unusedSimpArgs false
namespace Go.Ab
open Go.RowKit
theorem l00In_eq (a b c : Int) : F_spec_l00In a b c = some (decide (b ≤ a ∧ a ≤ c)) := by
 unfold F_spec_l00In
 by_cases h : b ≤ a <;> simp [h]
theorem within_eq (a b c : Int) : F_impl_within a b c = some (decide (b ≤ a ∧ a ≤ c)) := by
 unfold F_impl_within
 by_cases h : b ≤ a <;> simp [h]
end Go.Ab
set_option linter.unusedVariables false
set_option linter.unusedSimpArgs false
namespace Go.Ab
open Go.RowKit
theorem nif {R : Type} {b : Bool} {x y : R} : (bif !b then x else y) = bif b then y else x := by cases b <;> rfl
theorem bool_ext {a b : Bool} (h : a = true ↔ b = true) : a = b := by cases a <;> cases b <;> simp_all
theorem dec_le {a b : Int} : decide (b ≤ a) = !decide (a < b) := by
 by_cases h : a < b
 ·rw [decide_eq_true h, decide_eq_false (by omega)]; rfl
 ·rw [decide_eq_false h, decide_eq_true (by omega)]; rfl
theorem int_pos' (n : Nat) : decide ((0 : Int) < ((n + 1 : Nat) : Int)) = true := decide_eq_true (by omega)
theorem adj_of {α : Type} {one : α → Bool} {bef : α → α → Bool} : ∀ {A : List α} {p : Option α}, (∀ x ∈ A, one x = true) → (∀ (i : Nat) x y, A[i]? = some x → A[i + 1]? = some y → bef x y = true) → (∀ q x, p = some q → A[0]? = some x → bef q x = true) → adj one bef p A = true
 | [], p, _, _, _ => by cases p <;> rfl
 | a :: A, p, h1, h2, h3 => by
  have ih := adj_of (A := A) (p := some a) (fun x hx => h1 x (List.mem_cons_of_mem _ hx)) (fun i x y hx hy => h2 (i + 1) x y (by simpa using hx) (by simpa using hy)) (fun q x hq hx => by
   cases hq
   exact h2 0 a x rfl (by simpa using hx))
  cases p with
  | none => simp [adj, h1 a List.mem_cons_self, ih]
  | some q => simp [adj, h1 a List.mem_cons_self, h3 q a rfl rfl, ih]
theorem adj_iff {α : Type} {one : α → Bool} {bef : α → α → Bool} {A : List α} : adj one bef none A = true ↔ (∀ x ∈ A, one x = true) ∧ ∀ (i : Nat) x y, A[i]? = some x → A[i + 1]? = some y → bef x y = true :=
 ⟨fun h => adj_all h, fun h => adj_of h.1 h.2 fun q x hq => by cases hq⟩
def rises (L : List Int) (lo hi : Int) : Bool := adj (fun x => decide (lo ≤ x ∧ x ≤ hi)) (fun a b => decide (a < b)) none L
theorem l00Rises_eq {L : List Int} (hL : L.length ≤ 9223372036854775807) (lo hi : Int) : F_spec_l00Rises L lo hi = some (rises L lo hi) := by
 unfold F_spec_l00Rises rises
 have := loop_adj (A := L) (body := F_spec_l00Rises_l0 L lo hi) (one := fun x => decide (lo ≤ x ∧ x ≤ hi)) (bef := fun a b => decide (a < b)) (fin := true) hL ?_ ?_ ?_
 ·rw [this, Bool.and_true]
 ·intro k a ha
  have h0 : (0 : Int) = ((0 : Nat) : Int) := rfl
  rw [h0]
  simp only [F_spec_l00Rises_l0, int_lt (get_lt ha), bif_t, ix_get ha, Option.bind_some, l00In_eq, nif]
  rfl
 ·intro i k q a hq ha hi
  simp only [F_spec_l00Rises_l0, int_lt (get_lt ha), bif_t, ix_get ha, Option.bind_some, l00In_eq, nif, int_pos', w64_pred (show i < 9223372036854775807 by omega), ix_get hq, w64_succ hi, dec_le]
 ·intro k
  simp only [F_spec_l00Rises_l0, int_lt_self, bif_f]
theorem increasing_eq {L : List Int} (hL : L.length ≤ 9223372036854775807) (h1 : 1 ≤ L.length) : F_impl_increasing L = some (adj (fun _ => true) (fun a b => decide (a < b)) none L) := by
 unfold F_impl_increasing
 have key : ∀ (d i : Nat), i + 1 + d = L.length → ∀ N, d < N → iter (F_impl_increasing_l0 L) N ((i + 1 : Nat) : Int) = some (adj (fun _ => true) (fun a b => decide (a < b)) L[i]? (L.drop (i + 1))) := by
  intro d
  induction d with
  | zero =>
   intro i hi N hN
   obtain ⟨N, rfl⟩ : ∃ M, N = M + 1 := ⟨N - 1, by omega⟩
   have hn : decide (((i + 1 : Nat) : Int) < (L.length : Int)) = false := decide_eq_false (by omega)
   rw [iter, List.drop_eq_nil_of_le (by omega)]
   simp only [F_impl_increasing_l0, hn, bif_f]
   cases L[i]? <;> rfl
  | succ d ih =>
   intro i hi N hN
   obtain ⟨N, rfl⟩ : ∃ M, N = M + 1 := ⟨N - 1, by omega⟩
   obtain ⟨a, ha⟩ := get_some (L := L) (n := i + 1) (by omega)
   obtain ⟨q, hq⟩ := get_some (L := L) (n := i) (by omega)
   have h2 := ih (i + 1) (by omega) N (by omega)
   rw [iter, drop_cons ha, hq]
   simp only [F_impl_increasing_l0, int_lt (get_lt ha), bif_t, ix_get ha, Option.bind_some, w64_pred (show i < 9223372036854775807 by omega), ix_get hq, w64_succ (show i + 1 < 9223372036854775807 by omega), dec_le, nif]
   rw [h2, ha]
   simp only [adj, Bool.true_and]
   cases decide (q < a) <;> rfl
 have h0 := key (L.length - 1) 0 (by omega) lim (lt_lim (by omega))
 obtain ⟨a, ha⟩ := get_some (L := L) (n := 0) (by omega)
 rw [ha] at h0
 have e : adj (fun _ => true) (fun a b => decide (a < b)) (some a) (L.drop (0 + 1)) = adj (fun _ => true) (fun a b => decide (a < b)) none L := by
  have : L = a :: L.drop 1 := by have := drop_cons ha; simpa using this
  conv => rhs; rw [this]
  rfl
 rw [e] at h0
 exact h0
def scaleOk (L : List Int) : Bool := decide ((5 : Int) ≤ (L.length : Int)) && (rises L 0 11 && decide (L[0]? = some 0))
theorem l03Scale_eq {L : List Int} (hL : L.length ≤ 9223372036854775807) : F_spec_l03Scale L = some (scaleOk L) := by
 unfold F_spec_l03Scale scaleOk
 rw [l00Rises_eq hL]
 by_cases h5 : (5 : Int) ≤ L.length
 ·obtain ⟨a, ha⟩ := get_some (L := L) (n := 0) (by omega)
  have ha2 : ix L (0 : Int) = some a := ix_get ha
  rw [decide_eq_true h5, bif_t, Option.bind_some, ha2, ha]
  cases rises L 0 11 <;> simp
 ·rw [decide_eq_false h5]; rfl
theorem ValidScale_eq {L : List Int} (hL : L.length ≤ 9223372036854775807) : F_impl_ValidScale L = some (scaleOk L) := by
 unfold F_impl_ValidScale scaleOk
 by_cases h5 : (5 : Int) ≤ L.length
 ·obtain ⟨a, ha⟩ := get_some (L := L) (n := 0) (by omega)
  obtain ⟨z, hz⟩ := get_some (L := L) (n := L.length - 1) (by omega)
  have ha2 : ix L (0 : Int) = some a := ix_get ha
  have hz2 : ix L (w64 ((L.length : Int) - 1)) = some z := by
   rw [show (L.length : Int) - 1 = ((L.length - 1 : Nat) : Int) by omega, w64_id (by omega)]
   exact ix_get hz
  rw [increasing_eq hL (by omega), decide_eq_true h5, bif_t, ha2, Option.bind_some, ha]
  simp only [Bool.true_and, Option.some.injEq, Option.bind_some, hz2]
  by_cases h0 : a = 0
  ·rw [decide_eq_true h0, bif_t, Bool.and_true]
   have : (bif adj (fun _ => true) (fun a b : Int => decide (a < b)) none L then some (decide (z < 12)) else some false) = some (adj (fun _ => true) (fun a b : Int => decide (a < b)) none L && decide (z < 12)) := by
    cases adj (fun _ => true) (fun a b : Int => decide (a < b)) none L <;> rfl
   rw [this]
   congr 1
   refine bool_ext ?_
   unfold rises
   rw [Bool.and_eq_true, adj_iff, adj_iff, decide_eq_true_iff]
   constructor
   ·rintro ⟨⟨_, h1⟩, h2⟩
    have mono : ∀ (d i : Nat) x y, L[i]? = some x → L[i + d]? = some y → x + d ≤ y := by
     intro d
     induction d with
     | zero => intro i x y hx hy; rw [Nat.add_zero, hx] at hy; cases hy; simp
     | succ d ih =>
      intro i x y hx hy
      obtain ⟨m, hm⟩ := get_some (L := L) (n := i + d) (by have := get_lt hy; omega)
      have h3 := ih i x m hx hm
      have h4 := of_decide_eq_true (h1 (i + d) m y hm hy)
      omega
    refine ⟨fun x hx => ?_, h1⟩
    obtain ⟨i, hi⟩ := List.mem_iff_getElem?.1 hx
    have hlt := get_lt hi
    have q1 := mono i 0 a x ha (by rw [Nat.zero_add]; exact hi)
    have q2 := mono (L.length - 1 - i) i x z hi (by rw [show i + (L.length - 1 - i) = L.length - 1 by omega]; exact hz)
    exact decide_eq_true (by omega)
   ·rintro ⟨h1, h2⟩
    refine ⟨⟨fun _ _ => rfl, h2⟩, ?_⟩
    have := of_decide_eq_true (h1 z (get_mem hz))
    omega
  ·rw [decide_eq_false h0, bif_f, Bool.and_false]
 ·rw [decide_eq_false h5]; rfl
theorem l00Has_eq {L : List Int} (hL : L.length ≤ 9223372036854775807) (t : Int) : F_spec_l00Has L t = some (decide (t ∈ L)) := by
 unfold F_spec_l00Has
 obtain ⟨r, e, hr⟩ := loop_ex (body := F_spec_l00Has_l0 L t) (L := L) (s0 := 0) (Q := fun r => r = decide (t ∈ L)) (fun i s => s = (i : Int) ∧ ∀ x ∈ L.take i, x ≠ t) hL ⟨rfl, by simp⟩
  (by
   rintro i _ k a ha hi ⟨rfl, hI⟩ hk
   simp only [F_spec_l00Has_l0, int_lt (get_lt ha), bif_t, ix_get ha, Option.bind_some, w64_succ hi, bif_dec]
   split
   ·rename_i h
    exact ⟨_, rfl, (decide_eq_true (by rw [← h]; exact get_mem ha)).symm⟩
   ·rename_i h
    refine hk _ ⟨rfl, fun x hx => ?_⟩
    rw [take_succ ha] at hx
    rcases List.mem_append.1 hx with hx | hx
    ·exact hI x hx
    ·rw [List.mem_singleton.1 hx]; exact h)
  (by
   rintro _ k ⟨rfl, hI⟩
   rw [take_all (Nat.le_refl _)] at hI
   simp only [F_spec_l00Has_l0, int_lt_self, bif_f]
   exact ⟨_, rfl, (decide_eq_false fun h => hI t h rfl).symm⟩)
 rw [e, hr]
theorem ContainsI_eq {L : List Int} (hL : L.length ≤ 9223372036854775807) (t : Int) : F_slices_Contains_Sint64_int64 L t = some (decide (t ∈ L)) := by
 unfold F_slices_Contains_Sint64_int64 F_slices_Index_Sint64_int64
 obtain ⟨r, e, hr⟩ := loop_ex (body := F_slices_Index_Sint64_int64_l0 L t) (L := L) (s0 := 0) (Q := fun r => decide (0 ≤ r) = decide (t ∈ L)) (fun i s => s = (i : Int) ∧ ∀ x ∈ L.take i, x ≠ t) hL ⟨rfl, by simp⟩
  (by
   rintro i _ k a ha hi ⟨rfl, hI⟩ hk
   simp only [F_slices_Index_Sint64_int64_l0, int_lt (get_lt ha), bif_t, ix_get ha, Option.bind_some, w64_succ hi, bif_dec]
   split
   ·rename_i h
    exact ⟨_, rfl, by rw [decide_eq_true (by omega), decide_eq_true (by rw [h]; exact get_mem ha)]⟩
   ·rename_i h
    refine hk _ ⟨rfl, fun x hx => ?_⟩
    rw [take_succ ha] at hx
    rcases List.mem_append.1 hx with hx | hx
    ·exact hI x hx
    ·rw [List.mem_singleton.1 hx]; exact fun e => h e.symm)
  (by
   rintro _ k ⟨rfl, hI⟩
   rw [take_all (Nat.le_refl _)] at hI
   simp only [F_slices_Index_Sint64_int64_l0, int_lt_self, bif_f]
   exact ⟨_, rfl, by rw [decide_eq_false (by omega), decide_eq_false fun h => hI t h rfl]⟩)
 rw [e, Option.bind_some, hr]
def toneIn (a : TRaga) (t : Int) : Bool := decide (t ∈ a.2.1) || decide (t ∈ a.2.2.1)
theorem l05Tone_eq {a : TRaga} (h1 : a.2.1.length ≤ 9223372036854775807) (h2 : a.2.2.1.length ≤ 9223372036854775807) (t : Int) : F_spec_l05Tone a t = some (toneIn a t) := by
 unfold F_spec_l05Tone toneIn
 rw [l00Has_eq h1, l00Has_eq h2]
 simp only [Option.bind_some]
 cases decide (t ∈ a.2.1) <;> rfl
theorem hasTone_eq {a : TRaga} (h1 : a.2.1.length ≤ 9223372036854775807) (h2 : a.2.2.1.length ≤ 9223372036854775807) (t : Int) : F_impl_Raga_hasTone a t = some (toneIn a t) := by
 unfold F_impl_Raga_hasTone toneIn
 rw [ContainsI_eq h1, ContainsI_eq h2]
 simp only [Option.bind_some]
 cases decide (t ∈ a.2.1) <;> rfl
def noteOk (a : TNote) : Bool := decide (-12 ≤ a.1 ∧ a.1 ≤ 23) && decide (1 ≤ a.2 ∧ a.2 ≤ 64)
def melOk (L : List TNote) : Bool := adj noteOk (fun _ _ => true) none L && decide ((L.length : Int) ≤ 48)
theorem l09Ok_eq {L : List TNote} (hL : L.length ≤ 9223372036854775807) : F_spec_l09Ok L = some (melOk L) := by
 unfold F_spec_l09Ok melOk
 have st : ∀ (i : Nat) k a, L[i]? = some a → i < 9223372036854775807 → F_spec_l09Ok_l0 L k (i : Int) = bif noteOk a then k ((i + 1 : Nat) : Int) else some false := by
  intro i k a ha hi
  simp only [F_spec_l09Ok_l0, F_spec_l03Pitch, F_spec_l09Length, int_lt (get_lt ha), bif_t, ix_get ha, Option.bind_some, l00In_eq, nif, w64_succ hi, noteOk]
  cases decide (-12 ≤ a.1 ∧ a.1 ≤ 23) <;> rfl
 refine loop_adj hL ?_ ?_ ?_
 ·intro k a ha; exact st 0 k a ha (by omega)
 ·intro i k q a hq ha hi; rw [st (i + 1) k a ha hi]; rfl
 ·intro k; simp only [F_spec_l09Ok_l0, int_lt_self, bif_f]
theorem ValidMelody_eq {L : List TNote} (hL : L.length ≤ 9223372036854775807) : F_impl_ValidMelody L = some (melOk L) := by
 have st : ∀ (i : Nat) k a, L[i]? = some a → i < 9223372036854775807 → F_impl_ValidMelody_l0 L k (i : Int) = bif noteOk a then k ((i + 1 : Nat) : Int) else some false := by
  intro i k a ha hi
  simp only [F_impl_ValidMelody_l0, F_impl_pitchOk, F_impl_lengthOk, int_lt (get_lt ha), bif_t, ix_get ha, Option.bind_some, within_eq, nif, w64_succ hi, noteOk]
  cases decide (-12 ≤ a.1 ∧ a.1 ≤ 23) <;> rfl
 have e : loop (F_impl_ValidMelody_l0 L) 0 = some (adj noteOk (fun _ _ => true) none L && true) := by
  refine loop_adj hL ?_ ?_ ?_
  ·intro k a ha; exact st 0 k a ha (by omega)
  ·intro i k q a hq ha hi; rw [st (i + 1) k a ha hi]; rfl
  ·intro k; simp only [F_impl_ValidMelody_l0, int_lt_self, bif_f]
 unfold F_impl_ValidMelody melOk
 rw [e]
 by_cases h : (48 : Int) < L.length
 ·rw [decide_eq_true h, bif_t, decide_eq_false (by omega), Bool.and_false]
 ·rw [decide_eq_false h, bif_f, decide_eq_true (by omega)]
end Go.Ab
set_option linter.unusedVariables false
set_option linter.unusedSimpArgs false
namespace Go.Ab
open Go.RowKit
theorem less_eq (x y : Str) : Op.bytesLess x y = decide (x < y) := Go.Proofs.bytesLess_eq x y
def cmpI (a b : Int) : Int := if a < b then -1 else if b < a then 1 else 0
def cmpT (a b : Str) : Int := if a < b then -1 else if a = b then 0 else 1
theorem cmpI_eq (a b : Int) : F_cmp_Compare_int64 a b = some (cmpI a b) := by
 unfold F_cmp_Compare_int64 F_cmp_isNaN_int64 cmpI
 simp only [ne_eq, not_true_eq_false, decide_false, Option.bind_some, bif_f, bif_dec]
 split
 ·rfl
 ·split <;> rfl
theorem cmpT_eq (a b : Str) : F_cmp_Compare_string a b = some (cmpT a b) := by
 unfold F_cmp_Compare_string F_cmp_isNaN_string cmpT
 simp only [ne_eq, not_true_eq_false, decide_false, Option.bind_some, bif_f, less_eq]
 by_cases h : a < b
 ·simp [h]
 ·by_cases h2 : a = b
  ·subst h2; simp [h]
  ·simp [h, h2]
def or3 (x y z : Int) : Int := if x ≠ 0 then x else if y ≠ 0 then y else z
theorem Or3_eq (x y z : Int) : F_cmp_Or_int [x, y, z] = some (or3 x y z) := by
 unfold F_cmp_Or_int
 have := loop_sfx (body := F_cmp_Or_int_l0 [x, y, z]) (L := [x, y, z]) (fun t => (t.find? (fun z => decide (z ≠ 0))).getD 0) (by simp) ?_ ?_
 ·rw [this]
  unfold or3
  by_cases h : x = 0 <;> by_cases h2 : y = 0 <;> by_cases h3 : z = 0 <;> simp [List.find?, h, h2, h3]
 ·intro i k a t ha hi hk
  simp only [F_cmp_Or_int_l0, int_lt (get_lt ha), bif_t, ix_get ha, Option.bind_some, w64_succ hi, bif_dec, hk]
  by_cases h : a = 0 <;> simp [List.find?, h]
 ·intro k
  simp only [F_cmp_Or_int_l0, int_lt_self, bif_f]
  rfl
theorem loop_adjP {α : Type} {A : List α} {one : α → Bool} {bef : α → α → Bool} {fin : Bool} {body : (Int → Option Bool) → Int → Option Bool} (hA : A.length ≤ 9223372036854775807)
  (first : ∀ k a, A[0]? = some a → body k 0 = bif one a then k 1 else some false)
  (more : ∀ (i : Nat) k q a, A[i]? = some q → A[i + 1]? = some a → one q = true → i + 1 < 9223372036854775807 → body k ((i + 1 : Nat) : Int) = bif one a then (bif bef q a then k ((i + 2 : Nat) : Int) else some false) else some false)
  (done : ∀ k, body k (A.length : Int) = some fin) : loop body 0 = some (adj one bef none A && fin) := by
 have key : ∀ (d i : Nat), i + 1 + d = A.length → ∀ q, A[i]? = some q → one q = true → ∀ N, d < N → iter body N ((i + 1 : Nat) : Int) = some (adj one bef (some q) (A.drop (i + 1)) && fin) := by
  intro d
  induction d with
  | zero =>
   intro i hi q hq ho N hN
   obtain ⟨N, rfl⟩ : ∃ M, N = M + 1 := ⟨N - 1, by omega⟩
   have : i + 1 = A.length := by omega
   rw [iter, this, done, List.drop_length]
   rfl
  | succ d ih =>
   intro i hi q hq ho N hN
   obtain ⟨N, rfl⟩ : ∃ M, N = M + 1 := ⟨N - 1, by omega⟩
   obtain ⟨a, ha⟩ := get_some (L := A) (n := i + 1) (by omega)
   rw [iter, more i _ q a hq ha ho (by omega), drop_cons ha]
   simp only [adj]
   cases ho2 : one a
   ·rfl
   ·cases bef q a
    ·rfl
    ·have := ih (i + 1) (by omega) a ha ho2 N (by omega)
     simp only [bif_t, Bool.true_and]
     exact this
 cases A with
 | nil =>
  obtain ⟨m, hm⟩ : ∃ m, lim = m + 1 := ⟨lim - 1, by unfold lim; omega⟩
  unfold loop
  rw [hm, iter]
  have := done (iter body m)
  simpa [adj] using this
 | cons a A =>
  obtain ⟨m, hm⟩ : ∃ m, lim = m + 1 := ⟨lim - 1, by unfold lim; omega⟩
  have hml : A.length < m := by unfold lim at hm; simp only [List.length_cons] at hA; omega
  have hf := first (iter body m) a rfl
  unfold loop
  rw [hm, iter, hf]
  simp only [adj]
  cases ho : one a
  ·rfl
  ·have := key A.length 0 (by simp only [List.length_cons]; omega) a rfl ho m hml
   simp only [bif_t, Bool.true_and]
   simpa using this
def pr2 : List Int → Bool
 | [a, b] => decide (0 ≤ a ∧ a ≤ 11) && (decide (0 ≤ b ∧ b ≤ 11) && !decide (a = b))
 | _ => false
def pbef : List Int → List Int → Bool
 | [a, b], [c, d] => decide (a < c) || (decide (a = c) && decide (b < d))
 | _, _ => false
theorem two_cases {α : Type} (q : List α) : (∃ a b, q = [a, b]) ∨ decide ((q.length : Int) = 2) = false := by
 match q with
 | [] => exact .inr (by simp)
 | [a] => exact .inr (by simp)
 | [a, b] => exact .inl ⟨a, b, rfl⟩
 | a :: b :: c :: t => exact .inr (decide_eq_false (by simp only [List.length_cons]; omega))
theorem pr2_two {q : List Int} (h : pr2 q = true) : ∃ a b, q = [a, b] := by
 rcases two_cases q with h2 | h2
 ·exact h2
 ·match q, h with
  | [a, b], _ => exact ⟨a, b, rfl⟩
theorem ix0 {α : Type} (a b : α) : ix [a, b] 0 = some a := rfl
theorem ix1 {α : Type} (a b : α) : ix [a, b] 1 = some b := rfl
theorem pr2_no {q : List Int} (h : decide ((q.length : Int) = 2) = false) : pr2 q = false := by
 match q, h with
 | [], _ => rfl
 | [a], _ => rfl
 | [a, b], h => simp at h
 | a :: b :: c :: t, _ => rfl
theorem l05Pair_eq (q : List Int) : F_spec_l05Pair q = some (pr2 q) := by
 unfold F_spec_l05Pair
 rcases two_cases q with ⟨a, b, rfl⟩ | h
 ·rw [show decide ((([a, b] : List Int).length : Int) = 2) = true from rfl, bif_t]
  simp only [ix0, ix1, Option.bind_some, l00In_eq, pr2]
  cases decide (0 ≤ a ∧ a ≤ 11) <;> cases decide (0 ≤ b ∧ b ≤ 11) <;> simp
 ·rw [h, bif_f, pr2_no h]
theorem Compare2_eq (a b c d : Int) : ∃ r, F_slices_Compare_Sint64_int64 [a, b] [c, d] = some r ∧ decide (0 ≤ r) = !pbef [a, b] [c, d] := by
 unfold F_slices_Compare_Sint64_int64
 obtain ⟨m, hm⟩ : ∃ m, lim = m + 1 + 1 + 1 := ⟨lim - 3, by unfold lim; omega⟩
 unfold loop
 rw [hm]
 have w1 : w64 ((0 : Int) + 1) = 1 := by rw [w64_id (by omega)]; rfl
 have w2 : w64 ((1 : Int) + 1) = 2 := by rw [w64_id (by omega)]; rfl
 simp only [iter, F_slices_Compare_Sint64_int64_l0, ix0, ix1, Option.bind_some, cmpI_eq, w1, w2, List.length_cons, List.length_nil]
 simp only [show decide ((0 : Int) < ((0 + 1 + 1 : Nat) : Int)) = true from rfl, show decide ((1 : Int) < ((0 + 1 + 1 : Nat) : Int)) = true from rfl, show decide ((2 : Int) < ((0 + 1 + 1 : Nat) : Int)) = false from rfl, show decide (((0 + 1 + 1 : Nat) : Int) ≤ 0) = false from rfl, show decide (((0 + 1 + 1 : Nat) : Int) ≤ 1) = false from rfl, show decide (((0 + 1 + 1 : Nat) : Int) < ((0 + 1 + 1 : Nat) : Int)) = false from rfl, bif_t, bif_f]
 unfold pbef cmpI
 rcases Int.lt_trichotomy a c with h | h | h
 ·refine ⟨-1, ?_, ?_⟩ <;> simp [h]
 ·subst h
  rcases Int.lt_trichotomy b d with h | h | h
  ·refine ⟨-1, ?_, ?_⟩ <;> simp [h]
  ·subst h
   refine ⟨0, ?_, ?_⟩ <;> simp
  ·have : ¬ b < d := by omega
   refine ⟨1, ?_, ?_⟩ <;> simp [h, this]
 ·have h1 : ¬ a < c := by omega
  have h2 : ¬ a = c := by omega
  refine ⟨1, ?_, ?_⟩ <;> simp [h, h1, h2]
def pairsOk (F : List (List Int)) : Bool := adj pr2 pbef none F && decide ((F.length : Int) ≤ 8)
theorem l05Pairs_eq {F : List (List Int)} (hF : F.length ≤ 9223372036854775807) : F_spec_l05Pairs F = some (pairsOk F) := by
 unfold F_spec_l05Pairs pairsOk
 refine loop_adjP hF ?_ ?_ ?_
 ·intro k a ha
  have h0 : (0 : Int) = ((0 : Nat) : Int) := rfl
  rw [h0]
  simp only [F_spec_l05Pairs_l0, int_lt (get_lt ha), bif_t, ix_get ha, Option.bind_some, l05Pair_eq, nif]
  rfl
 ·intro i k q a hq ha ho hi
  obtain ⟨x, y, rfl⟩ := pr2_two ho
  simp only [F_spec_l05Pairs_l0, int_lt (get_lt ha), bif_t, ix_get ha, Option.bind_some, l05Pair_eq, nif, int_pos', w64_pred (show i < 9223372036854775807 by omega), ix_get hq, ix0, ix1, w64_succ hi]
  cases hp : pr2 a
  ·rfl
  ·obtain ⟨c, d, rfl⟩ := pr2_two hp
   simp only [bif_t, ix0, ix1, Option.bind_some, pbef]
   rcases Int.lt_trichotomy x c with h | h | h
   ·rw [decide_eq_false (show ¬ c < x by omega), decide_eq_false (show ¬ x = c by omega), decide_eq_true h]; rfl
   ·subst h
    rw [decide_eq_false (show ¬ x < x by omega), decide_eq_true (rfl : x = x)]
    by_cases h3 : y < d
    ·rw [decide_eq_false (show ¬ d ≤ y by omega), decide_eq_true h3]; rfl
    ·rw [decide_eq_true (show d ≤ y by omega), decide_eq_false h3]; rfl
   ·rw [decide_eq_true h, decide_eq_false (show ¬ x < c by omega), decide_eq_false (show ¬ x = c by omega)]; rfl
 ·intro k; simp only [F_spec_l05Pairs_l0, int_lt_self, bif_f]
def ragaOk (a : TRaga) : Bool := nameOk a.1 && (scaleOk a.2.1 && (scaleOk a.2.2.1 && (toneIn a a.2.2.2.1 && (toneIn a a.2.2.2.2.1 && (!decide (a.2.2.2.1 = a.2.2.2.2.1) && pairsOk a.2.2.2.2.2)))))
theorem l05Ok_eq {a : TRaga} (o : OkRaga a) : F_spec_l05Ok a = some (ragaOk a) := by
 obtain ⟨o0, o1, o2, _, _, o5⟩ := o
 unfold F_spec_l05Ok ragaOk
 rw [l01Name_eq _ o0, l03Scale_eq o1.1, l03Scale_eq o2.1, l05Tone_eq o1.1 o2.1, l05Tone_eq o1.1 o2.1, l05Pairs_eq o5.1]
 simp only [Option.bind_some, ne_eq, decide_not]
 cases nameOk a.1 <;> cases scaleOk a.2.1 <;> cases scaleOk a.2.2.1 <;> cases toneIn a a.2.2.2.1 <;> cases toneIn a a.2.2.2.2.1 <;> cases decide (a.2.2.2.1 = a.2.2.2.2.1) <;> rfl
theorem ValidRaga_eq {a : TRaga} (o : OkRaga a) : F_impl_ValidRaga a = some (ragaOk a) := by
 obtain ⟨o0, o1, o2, _, _, o5⟩ := o
 have e : loop (F_impl_ValidRaga_l0 a) 0 = some (adj pr2 pbef none a.2.2.2.2.2 && true) := by
  refine loop_adjP o5.1 ?_ ?_ ?_
  ·intro k q hq
   have h0 : (0 : Int) = ((0 : Nat) : Int) := rfl
   rw [h0]
   simp only [F_impl_ValidRaga_l0, int_lt (get_lt hq), bif_t, ix_get hq, Option.bind_some]
   rcases two_cases q with ⟨x, y, rfl⟩ | h
   ·rw [show decide ((([x, y] : List Int).length : Int) ≠ 2) = false from rfl, bif_f]
    simp only [ix0, ix1, Option.bind_some, F_impl_toneOk, within_eq, pr2]
    cases decide (0 ≤ x ∧ x ≤ 11) <;> cases decide (0 ≤ y ∧ y ≤ 11) <;> cases decide (x = y) <;> rfl
   ·rw [decide_eq_true (of_decide_eq_false h), bif_t, pr2_no h]; rfl
  ·intro i k p q hp hq ho hi
   obtain ⟨c, d, rfl⟩ := pr2_two ho
   simp only [F_impl_ValidRaga_l0, int_lt (get_lt hq), bif_t, ix_get hq, Option.bind_some, int_pos', w64_pred (show i < 9223372036854775807 by omega), ix_get hp, w64_succ hi]
   rcases two_cases q with ⟨x, y, rfl⟩ | h
   ·obtain ⟨r, e1, e2⟩ := Compare2_eq c d x y
    rw [show decide ((([x, y] : List Int).length : Int) ≠ 2) = false from rfl, bif_f]
    simp only [ix0, ix1, Option.bind_some, F_impl_toneOk, within_eq, pr2, e1, e2, nif]
    cases decide (0 ≤ x ∧ x ≤ 11) <;> cases decide (0 ≤ y ∧ y ≤ 11) <;> cases decide (x = y) <;> rfl
   ·rw [decide_eq_true (of_decide_eq_false h), bif_t, pr2_no h]; rfl
  ·intro k; simp only [F_impl_ValidRaga_l0, int_lt_self, bif_f]
 unfold F_impl_ValidRaga ragaOk pairsOk
 rw [IsName_eq _ o0, ValidScale_eq o1.1, ValidScale_eq o2.1, hasTone_eq o1.1 o2.1, hasTone_eq o1.1 o2.1, e]
 simp only [Option.bind_some, Bool.and_true]
 have h8 : decide ((8 : Int) < (a.2.2.2.2.2.length : Int)) = !decide ((a.2.2.2.2.2.length : Int) ≤ 8) := by
  by_cases h : (a.2.2.2.2.2.length : Int) ≤ 8
  ·rw [decide_eq_true h, decide_eq_false (by omega)]; rfl
  ·rw [decide_eq_false h, decide_eq_true (by omega)]; rfl
 rw [h8]
 cases nameOk a.1 <;> cases scaleOk a.2.1 <;> cases scaleOk a.2.2.1 <;> cases toneIn a a.2.2.2.1 <;> cases toneIn a a.2.2.2.2.1 <;> cases decide (a.2.2.2.1 = a.2.2.2.2.1) <;> cases decide ((a.2.2.2.2.2.length : Int) ≤ 8) <;> simp
def turnOk (t : TTurn) : Bool := nameOk t.1 && (decide (0 ≤ t.2.1 ∧ t.2.1 ≤ 10000) && decide (1 ≤ t.2.2 ∧ t.2.2 ≤ 10000))
def turnBef (a b : TTurn) : Bool := if a.2.1 ≠ b.2.1 then decide (a.2.1 < b.2.1) else if a.1 ≠ b.1 then decide (a.1 < b.1) else decide (a.2.2 < b.2.2)
theorem l23One_eq {t : TTurn} (o : OkTurn t) : F_spec_l23One t = some (turnOk t) := by
 unfold F_spec_l23One turnOk
 rw [l01Name_eq _ o.1, l00In_eq, l00In_eq]
 simp only [Option.bind_some]
 cases nameOk t.1 <;> cases decide (0 ≤ t.2.1 ∧ t.2.1 ≤ 10000) <;> rfl
theorem Tvalid_eq {t : TTurn} (o : OkTurn t) : F_impl_Turn_valid t = some (turnOk t) := by
 unfold F_impl_Turn_valid turnOk
 rw [IsName_eq _ o.1, within_eq, within_eq]
 simp only [Option.bind_some]
 cases nameOk t.1 <;> cases decide (0 ≤ t.2.1 ∧ t.2.1 ≤ 10000) <;> rfl
theorem l23Before_eq (a b : TTurn) : F_spec_l23Before a b = some (turnBef a b) := by
 unfold F_spec_l23Before turnBef
 simp only [bif_dec, less_eq]
 split
 ·rfl
 ·split <;> rfl
theorem compareT_bef (a b : TTurn) : ∃ c, F_impl_compareTurns a b = some c ∧ decide (0 ≤ c) = !turnBef a b := by
 refine ⟨or3 (cmpI a.2.1 b.2.1) (cmpT a.1 b.1) (cmpI a.2.2 b.2.2), ?_, ?_⟩
 ·unfold F_impl_compareTurns
  rw [cmpI_eq, cmpT_eq, cmpI_eq]
  simp only [Option.bind_some, Or3_eq]
 ·unfold or3 turnBef cmpI cmpT
  by_cases h1 : a.2.1 < b.2.1
  ·have : a.2.1 ≠ b.2.1 := by omega
   simp [h1, this]
  ·by_cases h2 : b.2.1 < a.2.1
   ·have : a.2.1 ≠ b.2.1 := by omega
    simp [h1, h2, this]
   ·have e : a.2.1 = b.2.1 := by omega
    simp only [e, Int.lt_irrefl, if_false, ne_eq, not_true_eq_false]
    by_cases h3 : a.1 = b.1
    ·have e3 : ¬ b.1 < b.1 := List.lt_irrefl _
     simp only [h3, e3, if_false, if_true, not_true_eq_false]
     by_cases h4 : a.2.2 < b.2.2
     ·simp [h4]
     ·by_cases h5 : b.2.2 < a.2.2 <;> simp [h4, h5]
    ·by_cases h4 : a.1 < b.1 <;> simp [h3, h4]
def turnsOk (L : List TTurn) : Bool := adj turnOk turnBef none L && decide ((L.length : Int) ≤ 24)
theorem l23Ok_eq {L : List TTurn} (oL : (OkL OkTurn) L) : F_spec_l23Ok L = some (turnsOk L) := by
 unfold F_spec_l23Ok turnsOk
 refine loop_adj oL.1 ?_ ?_ ?_
 ·intro k a ha
  have h0 : (0 : Int) = ((0 : Nat) : Int) := rfl
  rw [h0]
  simp only [F_spec_l23Ok_l0, int_lt (get_lt ha), bif_t, ix_get ha, Option.bind_some, l23One_eq (oL.2 a (get_mem ha)), nif]
  rfl
 ·intro i k q a hq ha hi
  simp only [F_spec_l23Ok_l0, int_lt (get_lt ha), bif_t, ix_get ha, Option.bind_some, l23One_eq (oL.2 a (get_mem ha)), nif, int_pos', w64_pred (show i < 9223372036854775807 by omega), w64_succ hi, ix_get hq, l23Before_eq]
 ·intro k; simp only [F_spec_l23Ok_l0, int_lt_self, bif_f]
theorem ValidTurns_eq {L : List TTurn} (oL : (OkL OkTurn) L) : F_impl_ValidTurns L = some (turnsOk L) := by
 have e : loop (F_impl_ValidTurns_l0 L) 0 = some (adj turnOk turnBef none L && true) := by
  refine loop_adj oL.1 ?_ ?_ ?_
  ·intro k a ha
   have h0 : (0 : Int) = ((0 : Nat) : Int) := rfl
   rw [h0]
   simp only [F_impl_ValidTurns_l0, int_lt (get_lt ha), bif_t, ix_get ha, Option.bind_some, Tvalid_eq (oL.2 a (get_mem ha)), nif]
   rfl
  ·intro i k q a hq ha hi
   obtain ⟨c, e, hc⟩ := compareT_bef q a
   simp only [F_impl_ValidTurns_l0, int_lt (get_lt ha), bif_t, ix_get ha, Option.bind_some, Tvalid_eq (oL.2 a (get_mem ha)), nif, int_pos', w64_pred (show i < 9223372036854775807 by omega), w64_succ hi, ix_get hq, e, hc]
  ·intro k; simp only [F_impl_ValidTurns_l0, int_lt_self, bif_f]
 unfold F_impl_ValidTurns turnsOk
 rw [e]
 by_cases h : (24 : Int) < L.length
 ·rw [decide_eq_true h, bif_t, decide_eq_false (by omega), Bool.and_false]
 ·rw [decide_eq_false h, bif_f, decide_eq_true (by omega)]
end Go.Ab
set_option linter.unusedVariables false
set_option linter.unusedSimpArgs false
namespace Go.Ab
open Go.RowKit
def sumW (L : List Int) : Int := L.foldl (fun s x => w64 (s + x)) 0
theorem sumW_step {L : List Int} {i : Nat} {a : Int} (h : L[i]? = some a) : sumW (L.take (i + 1)) = w64 (sumW (L.take i) + a) := by
 unfold sumW
 rw [take_succ h, List.foldl_append]; rfl
theorem l17Sum_eq {L : List Int} (hL : L.length ≤ 9223372036854775807) : F_spec_l17Sum L = some (sumW L) := by
 unfold F_spec_l17Sum
 obtain ⟨r, e, hr⟩ := loop_ex (body := F_spec_l17Sum_l0 L) (s0 := (0, 0)) (L := L) (Q := fun r => r = sumW L) (fun i s => s = (sumW (L.take i), (i : Int))) hL rfl
  (by
   rintro i _ K a ha hi rfl hK
   simp only [F_spec_l17Sum_l0, int_lt (get_lt ha), bif_t, ix_get ha, Option.bind_some, w64_succ hi]
   exact hK _ (by rw [sumW_step ha]))
  (by
   rintro _ K rfl
   refine ⟨sumW L, ?_, rfl⟩
   simp only [F_spec_l17Sum_l0, int_lt_self, bif_f]
   rw [take_all (Nat.le_refl _)])
 rw [e, hr]
theorem sumOf_eq {L : List Int} (hL : L.length ≤ 9223372036854775807) : F_impl_sumOf L = some (sumW L) := by
 unfold F_impl_sumOf
 obtain ⟨r, e, hr⟩ := loop_ex (body := F_impl_sumOf_l0 L) (s0 := (0, 0)) (L := L) (Q := fun r => r = sumW L) (fun i s => s = (sumW (L.take i), (i : Int))) hL rfl
  (by
   rintro i _ K a ha hi rfl hK
   simp only [F_impl_sumOf_l0, int_lt (get_lt ha), bif_t, ix_get ha, Option.bind_some, w64_succ hi]
   exact hK _ (by rw [sumW_step ha]))
  (by
   rintro _ K rfl
   refine ⟨sumW L, ?_, rfl⟩
   simp only [F_impl_sumOf_l0, int_lt_self, bif_f]
   rw [take_all (Nat.le_refl _)])
 rw [e, hr]
theorem allWithin_eq {L : List Int} (hL : L.length ≤ 9223372036854775807) (lo hi : Int) : F_impl_allWithin L lo hi = some (L.all fun x => decide (lo ≤ x ∧ x ≤ hi)) := by
 unfold F_impl_allWithin F_slices_ContainsFunc_Sint64_int64 F_slices_IndexFunc_Sint64_int64
 obtain ⟨r, e, hr⟩ := loop_ex (body := F_slices_IndexFunc_Sint64_int64_l0 L lo hi) (L := L) (s0 := 0) (Q := fun r => (!decide (0 ≤ r)) = L.all fun x => decide (lo ≤ x ∧ x ≤ hi)) (fun i s => s = (i : Int) ∧ ∀ x ∈ L.take i, decide (lo ≤ x ∧ x ≤ hi) = true) hL ⟨rfl, by simp⟩
  (by
   rintro i _ k a ha hi2 ⟨rfl, hI⟩ hk
   simp only [F_slices_IndexFunc_Sint64_int64_l0, F_impl_allWithin_1, int_lt (get_lt ha), bif_t, ix_get ha, Option.bind_some, within_eq, w64_succ hi2, nif]
   cases hp : decide (lo ≤ a ∧ a ≤ hi)
   ·rw [bif_f]
    refine ⟨_, rfl, ?_⟩
    rw [decide_eq_true (by omega)]
    have : (L.all fun x => decide (lo ≤ x ∧ x ≤ hi)) = false := List.all_eq_false.2 ⟨a, get_mem ha, by rw [hp]; simp⟩
    rw [this]; rfl
   ·rw [bif_t]
    refine hk _ ⟨rfl, fun x hx => ?_⟩
    rw [take_succ ha] at hx
    rcases List.mem_append.1 hx with hx | hx
    ·exact hI x hx
    ·rw [List.mem_singleton.1 hx]; exact hp)
  (by
   rintro _ k ⟨rfl, hI⟩
   rw [take_all (Nat.le_refl _)] at hI
   simp only [F_slices_IndexFunc_Sint64_int64_l0, int_lt_self, bif_f]
   refine ⟨_, rfl, ?_⟩
   rw [List.all_eq_true.2 hI]; rfl)
 rw [e]
 simp only [Option.bind_some, hr]
def gd (t : TTala) (i : Nat) : Bool := match t.2.1[i]?, t.2.2[i]? with
 | some g, some c => decide (1 ≤ g ∧ g ≤ 16) && (if i = 0 then decide (c = 1) else decide (2 ≤ c ∧ c ≤ 3))
 | _, _ => false
def talaOk (t : TTala) : Bool := nameOk t.1 && (decide (1 ≤ (t.2.1.length : Int) ∧ (t.2.1.length : Int) ≤ 8) && (decide (t.2.2.length = t.2.1.length) && ((List.range t.2.1.length).all (gd t) && decide (sumW t.2.1 ≤ 32))))
theorem range_all {p : Nat → Bool} {n : Nat} : (List.range n).all p = true ↔ ∀ i, i < n → p i = true := by
 rw [List.all_eq_true]
 exact ⟨fun h i hi => h i (List.mem_range.2 hi), fun h i hi => h i (List.mem_range.1 hi)⟩
theorem l17Ok_eq {t : TTala} (o : OkTala t) : F_spec_l17Ok t = some (talaOk t) := by
 obtain ⟨o0, o1, o2⟩ := o
 unfold F_spec_l17Ok talaOk
 rw [l01Name_eq _ o0, l00In_eq]
 simp only [Option.bind_some, nif]
 cases nameOk t.1
 ·rfl
 cases decide (1 ≤ (t.2.1.length : Int) ∧ (t.2.1.length : Int) ≤ 8)
 ·rfl
 by_cases hlen : t.2.2.length = t.2.1.length
 ·rw [decide_eq_false (show ¬ (t.2.2.length : Int) ≠ (t.2.1.length : Int) by omega), decide_eq_true hlen]
  simp only [bif_t, bif_f, Bool.true_and]
  obtain ⟨r, e, hr⟩ := loop_ex (body := F_spec_l17Ok_l0 t) (L := t.2.1) (s0 := 0) (Q := fun r => r = ((List.range t.2.1.length).all (gd t) && decide (sumW t.2.1 ≤ 32))) (fun i s => s = (i : Int) ∧ ∀ j, j < i → gd t j = true) o1.1 ⟨rfl, fun _ h => by omega⟩
   (by
    rintro i _ K g hg hi ⟨rfl, hI⟩ hK
    have hlt := get_lt hg
    obtain ⟨c, hc⟩ := get_some (L := t.2.2) (n := i) (by omega)
    have hgd : gd t i = (decide (1 ≤ g ∧ g ≤ 16) && (if i = 0 then decide (c = 1) else decide (2 ≤ c ∧ c ≤ 3))) := by unfold gd; rw [hg, hc]
    have bad : gd t i = false → ∃ r, (some false : Option Bool) = some r ∧ r = ((List.range t.2.1.length).all (gd t) && decide (sumW t.2.1 ≤ 32)) := by
     intro h
     have : (List.range t.2.1.length).all (gd t) = false := List.all_eq_false.2 ⟨i, List.mem_range.2 hlt, by rw [h]; simp⟩
     exact ⟨_, rfl, by rw [this]; rfl⟩
    have good : gd t i = true → ∃ r, K ((i + 1 : Nat) : Int) = some r ∧ r = ((List.range t.2.1.length).all (gd t) && decide (sumW t.2.1 ≤ 32)) := by
     intro h
     refine hK _ ⟨rfl, fun j hj => ?_⟩
     by_cases e : j = i
     ·rw [e]; exact h
     ·exact hI j (by omega)
    simp only [F_spec_l17Ok_l0, int_lt hlt, bif_t, ix_get hg, ix_get hc, Option.bind_some, l00In_eq, nif, w64_succ hi]
    cases h1 : decide (1 ≤ g ∧ g ≤ 16)
    ·exact bad (by rw [hgd, h1]; rfl)
    ·rw [bif_t]
     cases i with
     | zero =>
      rw [show decide (((0 : Nat) : Int) = 0) = true from rfl, show decide ((0 : Int) < ((0 : Nat) : Int)) = false from rfl, bif_t]
      by_cases h2 : c = 1
      ·rw [decide_eq_false (show ¬ c ≠ 1 by simpa using h2), bif_f, bif_f]
       exact good (by rw [hgd, h1, if_pos rfl, decide_eq_true h2]; rfl)
      ·rw [decide_eq_true (show c ≠ 1 from h2), bif_t]
       exact bad (by rw [hgd, h1, if_pos rfl, decide_eq_false h2]; rfl)
     | succ n =>
      rw [show decide (((n + 1 : Nat) : Int) = 0) = false from decide_eq_false (by omega), int_pos', bif_f, bif_t]
      cases h2 : decide (2 ≤ c ∧ c ≤ 3)
      ·exact bad (by rw [hgd, h1, if_neg (by omega), h2]; rfl)
      ·exact good (by rw [hgd, h1, if_neg (by omega), h2]; rfl))
   (by
    rintro _ K ⟨rfl, hI⟩
    simp only [F_spec_l17Ok_l0, int_lt_self, bif_f, l17Sum_eq o1.1, Option.bind_some]
    refine ⟨_, rfl, ?_⟩
    rw [range_all.2 hI]; rfl)
  rw [e, hr]
 ·rw [decide_eq_true (show (t.2.2.length : Int) ≠ (t.2.1.length : Int) by omega), decide_eq_false hlen]; rfl
theorem ValidTala_eq {t : TTala} (o : OkTala t) : F_impl_ValidTala t = some (talaOk t) := by
 obtain ⟨o0, o1, o2⟩ := o
 unfold F_impl_ValidTala talaOk F_impl_Tala_beats
 rw [IsName_eq _ o0, allWithin_eq o1.1, sumOf_eq o1.1]
 simp only [Option.bind_some, nif]
 cases nameOk t.1
 ·rfl
 by_cases hn : 1 ≤ (t.2.1.length : Int) ∧ (t.2.1.length : Int) ≤ 8
 ·rw [decide_eq_false (show ¬ (t.2.1.length : Int) < 1 by omega), decide_eq_false (show ¬ (8 : Int) < (t.2.1.length : Int) by omega), decide_eq_true hn]
  simp only [bif_t, bif_f, Bool.true_and]
  by_cases hlen : t.2.2.length = t.2.1.length
  ·rw [decide_eq_true (show (t.2.2.length : Int) = (t.2.1.length : Int) by omega), decide_eq_true hlen]
   obtain ⟨c, hc⟩ := get_some (L := t.2.2) (n := 0) (by omega)
   have hc2 : ix t.2.2 (0 : Int) = some c := ix_get hc
   have hsub : sub t.2.2 1 (t.2.2.length : Int) = t.2.2.drop 1 := by
    unfold sub
    rw [Int.toNat_natCast, List.take_length]; rfl
   rw [hc2, need_true (by omega), hsub, allWithin_eq (by rw [List.length_drop]; omega)]
   simp only [Option.bind_some, bif_t, Bool.true_and]
   have key : (List.range t.2.1.length).all (gd t) = ((t.2.1.all fun x => decide (1 ≤ x ∧ x ≤ 16)) && (decide (c = 1) && (t.2.2.drop 1).all fun x => decide (2 ≤ x ∧ x ≤ 3))) := by
    refine bool_ext ?_
    rw [range_all, Bool.and_eq_true, Bool.and_eq_true, List.all_eq_true, List.all_eq_true, decide_eq_true_iff]
    constructor
    ·intro h
     refine ⟨fun x hx => ?_, ?_, fun x hx => ?_⟩
     ·obtain ⟨i, hi⟩ := List.mem_iff_getElem?.1 hx
      obtain ⟨d, hd⟩ := get_some (L := t.2.2) (n := i) (by have := get_lt hi; omega)
      have := h i (get_lt hi)
      unfold gd at this
      rw [hi, hd, Bool.and_eq_true] at this
      exact this.1
     ·obtain ⟨g, hg⟩ := get_some (L := t.2.1) (n := 0) (by omega)
      have := h 0 (by omega)
      unfold gd at this
      rw [hg, hc, Bool.and_eq_true, if_pos rfl] at this
      exact of_decide_eq_true this.2
     ·obtain ⟨i, hi⟩ := List.mem_iff_getElem?.1 hx
      rw [List.getElem?_drop] at hi
      have hlt := get_lt hi
      obtain ⟨g, hg⟩ := get_some (L := t.2.1) (n := 1 + i) (by omega)
      have := h (1 + i) (by omega)
      unfold gd at this
      rw [hg, hi, Bool.and_eq_true, if_neg (by omega)] at this
      exact this.2
    ·rintro ⟨h1, h2, h3⟩ i hi
     obtain ⟨g, hg⟩ := get_some (L := t.2.1) (n := i) hi
     obtain ⟨d, hd⟩ := get_some (L := t.2.2) (n := i) (by omega)
     unfold gd
     rw [hg, hd, Bool.and_eq_true]
     refine ⟨h1 g (get_mem hg), ?_⟩
     split
     ·rename_i h0
      subst h0
      rw [hc] at hd; cases hd
      exact decide_eq_true h2
     ·rename_i h0
      refine h3 d (List.mem_iff_getElem?.2 ⟨i - 1, ?_⟩)
      rw [List.getElem?_drop, show 1 + (i - 1) = i by omega]; exact hd
   rw [key]
   have h32 : decide ((32 : Int) < sumW t.2.1) = !decide (sumW t.2.1 ≤ 32) := by
    by_cases h : sumW t.2.1 ≤ 32
    ·rw [decide_eq_true h, decide_eq_false (by omega)]; rfl
    ·rw [decide_eq_false h, decide_eq_true (by omega)]; rfl
   rw [h32]
   cases (t.2.1.all fun x => decide (1 ≤ x ∧ x ≤ 16)) <;> cases decide (sumW t.2.1 ≤ 32) <;> cases decide (c = 1) <;> simp
  ·rw [decide_eq_false (show ¬ (t.2.2.length : Int) = (t.2.1.length : Int) by omega), decide_eq_false hlen]
   cases (t.2.1.all fun x => decide (1 ≤ x ∧ x ≤ 16)) <;> cases decide ((32 : Int) < sumW t.2.1) <;> rfl
 ·rw [decide_eq_false hn]
  by_cases h1 : (t.2.1.length : Int) < 1
  ·rw [decide_eq_true h1]; rfl
  ·rw [decide_eq_false h1, decide_eq_true (show (8 : Int) < (t.2.1.length : Int) by omega)]; rfl
def cadOk (t : TTala) (sp st ph gap : Int) : Bool := talaOk t && (decide (1 ≤ sp ∧ sp ≤ 8) && (decide (0 ≤ st ∧ st ≤ w64 (w64 (sumW t.2.1 * sp) - 1)) && (decide (1 ≤ ph ∧ ph ≤ 64) && decide (0 ≤ gap ∧ gap ≤ 32))))
theorem cad_impl {t : TTala} (o : OkTala t) (sp st ph gap : Int) : ∃ c, F_impl_cadenceCode t sp st ph gap 0 = some c ∧ decide (c = 0) = cadOk t sp st ph gap := by
 unfold F_impl_cadenceCode cadOk F_impl_Tala_beats
 rw [ValidTala_eq o, sumOf_eq o.2.1.1]
 simp only [Option.bind_some, within_eq, nif]
 cases talaOk t
 ·exact ⟨_, rfl, rfl⟩
 cases decide (1 ≤ sp ∧ sp ≤ 8)
 ·exact ⟨_, rfl, rfl⟩
 cases decide (0 ≤ st ∧ st ≤ w64 (w64 (sumW t.2.1 * sp) - 1))
 ·exact ⟨_, rfl, rfl⟩
 cases decide (1 ≤ ph ∧ ph ≤ 64)
 ·exact ⟨_, rfl, rfl⟩
 cases decide (0 ≤ gap ∧ gap ≤ 32)
 ·exact ⟨_, rfl, rfl⟩
 ·exact ⟨_, rfl, rfl⟩
theorem cad_spec {t : TTala} (o : OkTala t) (sp st ph gap : Int) : ∃ c, F_spec_l19Start t sp st = some c ∧ F_spec_l19Phrase ph = some (decide (1 ≤ ph ∧ ph ≤ 64)) ∧ F_spec_l19Gap gap = some (decide (0 ≤ gap ∧ gap ≤ 32)) ∧ (decide (c = 0) && (decide (1 ≤ ph ∧ ph ≤ 64) && decide (0 ≤ gap ∧ gap ≤ 32))) = cadOk t sp st ph gap := by
 have e1 : F_spec_l19Phrase ph = some (decide (1 ≤ ph ∧ ph ≤ 64)) := by unfold F_spec_l19Phrase; rw [l00In_eq]; rfl
 have e2 : F_spec_l19Gap gap = some (decide (0 ≤ gap ∧ gap ≤ 32)) := by unfold F_spec_l19Gap; rw [l00In_eq]; rfl
 unfold F_spec_l19Start F_spec_l19Ask F_spec_l19Units F_spec_l17Beats cadOk
 rw [l17Ok_eq o, l17Sum_eq o.2.1.1]
 simp only [Option.bind_some, l00In_eq, nif]
 cases talaOk t
 ·exact ⟨_, rfl, e1, e2, rfl⟩
 cases decide (1 ≤ sp ∧ sp ≤ 8)
 ·exact ⟨_, rfl, e1, e2, rfl⟩
 cases decide (0 ≤ st ∧ st ≤ w64 (w64 (sumW t.2.1 * sp) - 1))
 ·exact ⟨_, rfl, e1, e2, rfl⟩
 ·exact ⟨_, rfl, e1, e2, by simp⟩
end Go.Ab
set_option linter.unusedVariables false
set_option linter.unusedSimpArgs false
namespace Go.Ab
open Go.RowKit
def tone (p : Int) : Int := Int.tmod (w64 ((Int.tmod p 12) + 12)) 12
theorem l03Tone_eq (p : Int) : F_spec_l03Tone p = some (tone p) := rfl
theorem ToneOf_eq (p : Int) : F_impl_ToneOf p = some (tone p) := rfl
def forb (a : TRaga) (s t : Int) : Bool := a.2.2.2.2.2.any fun q => decide (q = [s, t])
theorem two_eq (x y s t : Int) : decide (([x, y] : List Int) = [s, t]) = (decide (x = s) && decide (y = t)) := by
 by_cases h1 : x = s <;> by_cases h2 : y = t <;> simp [h1, h2]
theorem forb_spec {a : TRaga} (hF : a.2.2.2.2.2.length ≤ 9223372036854775807) (h2 : ∀ q ∈ a.2.2.2.2.2, ∃ x y, q = [x, y]) (s t : Int) : F_spec_l05Reason_j1 a s t = some (if forb a s t = true then 5 else 0) := by
 unfold F_spec_l05Reason_j1
 obtain ⟨r, e, hr⟩ := loop_ex (body := F_spec_l05Reason_l2 a s t) (s0 := 0) (L := a.2.2.2.2.2) (Q := fun r => r = if forb a s t = true then 5 else 0) (fun i s' => s' = (i : Int) ∧ ∀ q ∈ a.2.2.2.2.2.take i, decide (q = [s, t]) = false) hF ⟨rfl, by simp⟩
  (by
   rintro i _ k q hq hi ⟨rfl, hI⟩ hk
   obtain ⟨x, y, rfl⟩ := h2 q (get_mem hq)
   have bad : decide (([x, y] : List Int) = [s, t]) = true → forb a s t = true := fun h => List.any_eq_true.2 ⟨_, get_mem hq, h⟩
   have next : decide (([x, y] : List Int) = [s, t]) = false → ∃ r, k ((i + 1 : Nat) : Int) = some r ∧ r = if forb a s t = true then 5 else 0 := by
    intro h
    refine hk _ ⟨rfl, fun z hz => ?_⟩
    rw [take_succ hq] at hz
    rcases List.mem_append.1 hz with hz | hz
    ·exact hI z hz
    ·rw [List.mem_singleton.1 hz]; exact h
   simp only [F_spec_l05Reason_l2, int_lt (get_lt hq), bif_t, ix_get hq, Option.bind_some, ix0, ix1, w64_succ hi]
   rw [two_eq] at bad next
   cases h1 : decide (x = s)
   ·rw [bif_f]; exact next (by rw [h1]; rfl)
   ·rw [bif_t]
    cases h3 : decide (y = t)
    ·rw [bif_f]; exact next (by rw [h1, h3]; rfl)
    ·rw [bif_t]; exact ⟨_, rfl, by rw [if_pos (bad (by rw [h1, h3]; rfl))]⟩)
  (by
   rintro _ k ⟨rfl, hI⟩
   rw [take_all (Nat.le_refl _)] at hI
   simp only [F_spec_l05Reason_l2, int_lt_self, bif_f]
   have : forb a s t = false := List.any_eq_false.2 fun q hq => by rw [hI q hq]; simp
   exact ⟨_, rfl, by rw [this]; rfl⟩)
 rw [e, hr]
theorem forb_impl {a : TRaga} (hF : a.2.2.2.2.2.length ≤ 9223372036854775807) (h2 : ∀ q ∈ a.2.2.2.2.2, ∃ x y, q = [x, y]) (s t : Int) : F_slices_ContainsFunc_SSint64_Sint64 a.2.2.2.2.2 s t = some (forb a s t) := by
 unfold F_slices_ContainsFunc_SSint64_Sint64 F_slices_IndexFunc_SSint64_Sint64
 obtain ⟨r, e, hr⟩ := loop_ex (body := F_slices_IndexFunc_SSint64_Sint64_l0 a.2.2.2.2.2 s t) (s0 := 0) (L := a.2.2.2.2.2) (Q := fun r => decide (0 ≤ r) = forb a s t) (fun i s' => s' = (i : Int) ∧ ∀ q ∈ a.2.2.2.2.2.take i, decide (q = [s, t]) = false) hF ⟨rfl, by simp⟩
  (by
   rintro i _ k q hq hi ⟨rfl, hI⟩ hk
   obtain ⟨x, y, rfl⟩ := h2 q (get_mem hq)
   have e1 : F_impl_Raga_reason_1 [x, y] s t = some (decide (([x, y] : List Int) = [s, t])) := by
    unfold F_impl_Raga_reason_1
    rw [two_eq]
    simp only [ix0, ix1, Option.bind_some]
    cases decide (x = s) <;> rfl
   simp only [F_slices_IndexFunc_SSint64_Sint64_l0, int_lt (get_lt hq), bif_t, ix_get hq, Option.bind_some, e1, w64_succ hi]
   cases h : decide (([x, y] : List Int) = [s, t])
   ·rw [bif_f]
    refine hk _ ⟨rfl, fun z hz => ?_⟩
    rw [take_succ hq] at hz
    rcases List.mem_append.1 hz with hz | hz
    ·exact hI z hz
    ·rw [List.mem_singleton.1 hz]; exact h
   ·rw [bif_t]
    have : forb a s t = true := List.any_eq_true.2 ⟨_, get_mem hq, h⟩
    exact ⟨_, rfl, by rw [this, decide_eq_true (by omega)]⟩)
  (by
   rintro _ k ⟨rfl, hI⟩
   rw [take_all (Nat.le_refl _)] at hI
   simp only [F_slices_IndexFunc_SSint64_Sint64_l0, int_lt_self, bif_f]
   have : forb a s t = false := List.any_eq_false.2 fun q hq => by rw [hI q hq]; simp
   exact ⟨_, rfl, by rw [this]; rfl⟩)
 rw [e, Option.bind_some, hr]
theorem reason_ex {a : TRaga} (o : OkRaga a) (h2 : ∀ q ∈ a.2.2.2.2.2, ∃ x y, q = [x, y]) {p q : Int} (hp : -100 ≤ p ∧ p ≤ 100) (hq : -100 ≤ q ∧ q ≤ 100) : ∃ r, F_spec_l05Reason a p q = some r ∧ F_impl_Raga_reason a p q = some r ∧ 0 ≤ r := by
 obtain ⟨o0, o1, o2, _, _, o5⟩ := o
 unfold F_spec_l05Reason F_impl_Raga_reason
 simp only [l03Tone_eq, ToneOf_eq, Option.bind_some, l05Tone_eq o1.1 o2.1, hasTone_eq o1.1 o2.1]
 cases h1 : toneIn a (tone p)
 ·exact ⟨1, rfl, rfl, by decide⟩
 simp only [Bool.not_true, bif_f]
 cases h3 : toneIn a (tone q)
 ·exact ⟨1, rfl, rfl, by decide⟩
 simp only [Bool.not_true, bif_f]
 unfold F_impl_Raga_reason_j0 F_spec_l00Max F_impl_abs
 rw [bif_f]
 have w1 : w64 (p - q) = p - q := w64_id (by omega)
 have w2 : w64 (q - p) = q - p := w64_id (by omega)
 have w3 : w64 (0 - (p - q)) = q - p := by rw [w64_id (by omega)]; omega
 rw [w1, w2, w3]
 have tail : F_spec_l05Reason_j0 a p q (tone p) (tone q) = F_impl_Raga_reason_j1 a p q (tone p) (tone q) false := by
  unfold F_spec_l05Reason_j0 F_impl_Raga_reason_j1
  rw [bif_f]
  have j2 : F_impl_Raga_reason_j2 a (tone p) (tone q) false = F_spec_l05Reason_j1 a (tone p) (tone q) := by
   unfold F_impl_Raga_reason_j2
   rw [forb_spec o5.1 h2, forb_impl o5.1 h2, bif_f, Option.bind_some]
   cases forb a (tone p) (tone q) <;> rfl
  rw [← j2, l00Has_eq o2.1, ContainsI_eq o2.1]
  simp only [Option.bind_some]
  cases decide (q < p)
  ·rfl
  ·rw [bif_t, bif_t]
   cases decide (tone q ∈ a.2.2.1) <;> rfl
 have jt : F_impl_Raga_reason_j1 a p q (tone p) (tone q) true = some 3 := rfl
 rw [l00Has_eq o1.1, ContainsI_eq o1.1, tail]
 have jj : ∃ r, F_impl_Raga_reason_j1 a p q (tone p) (tone q) false = some r ∧ 0 ≤ r := by
  rw [← tail]
  unfold F_spec_l05Reason_j0
  rw [forb_spec o5.1 h2, l00Has_eq o2.1]
  simp only [Option.bind_some]
  cases decide (q < p) <;> cases decide (tone q ∈ a.2.2.1) <;> exact ⟨_, rfl, by first | decide | (split <;> decide)⟩
 obtain ⟨r0, hr0, hp0⟩ := jj
 simp only [Option.bind_some, hr0, jt]
 have hM : (if q - p > p - q then q - p else p - q) = (if p - q < q - p then q - p else p - q) := rfl
 by_cases hlt : q - p < p - q
 ·rw [decide_eq_true hlt, bif_t, if_neg (by omega)]
  simp only [Option.bind_some]
  cases decide (12 < p - q)
  ·rw [bif_f, bif_f]
   cases decide (p < q)
   ·exact ⟨r0, rfl, rfl, hp0⟩
   ·cases decide (tone q ∈ a.2.1)
    ·exact ⟨3, rfl, by simp [jt], by decide⟩
    ·exact ⟨r0, rfl, by simp [hr0], hp0⟩
  ·exact ⟨2, rfl, rfl, by decide⟩
 ·rw [decide_eq_false hlt, bif_f]
  have hA : (if q - p > p - q then q - p else p - q) = q - p := by split <;> omega
  rw [hA]
  simp only [Option.bind_some]
  cases decide (12 < q - p)
  ·rw [bif_f, bif_f]
   cases decide (p < q)
   ·exact ⟨r0, rfl, rfl, hp0⟩
   ·cases decide (tone q ∈ a.2.1)
    ·exact ⟨3, rfl, by simp [jt], by decide⟩
    ·exact ⟨r0, rfl, by simp [hr0], hp0⟩
  ·exact ⟨2, rfl, rfl, by decide⟩
noncomputable def rsn (a : TRaga) (p q : Int) : Int := (F_spec_l05Reason a p q).getD 1
theorem rsn_le {a : TRaga} (o : OkRaga a) (h2 : ∀ q ∈ a.2.2.2.2.2, ∃ x y, q = [x, y]) {p q : Int} (hp : -100 ≤ p ∧ p ≤ 100) (hq : -100 ≤ q ∧ q ≤ 100) : rsn a p q ≤ 5 := by
 obtain ⟨o0, o1, o2, _, _, o5⟩ := o
 have key : ∃ r, F_spec_l05Reason a p q = some r ∧ r ≤ 5 := by
  unfold F_spec_l05Reason F_spec_l05Reason_j0 F_spec_l00Max
  simp only [l03Tone_eq, Option.bind_some, l05Tone_eq o1.1 o2.1, forb_spec o5.1 h2, l00Has_eq o1.1, l00Has_eq o2.1]
  cases toneIn a (tone p)
  ·exact ⟨1, rfl, by decide⟩
  cases toneIn a (tone q)
  ·exact ⟨1, rfl, by decide⟩
  simp only [Bool.not_true, bif_f]
  have fin : ∀ r : Int, r ≤ 5 → ∃ s, some r = some s ∧ s ≤ 5 := fun r h => ⟨r, rfl, h⟩
  have hf : (if forb a (tone p) (tone q) = true then (5 : Int) else 0) ≤ 5 := by split <;> decide
  generalize (if forb a (tone p) (tone q) = true then (5 : Int) else 0) = f at hf
  cases decide (w64 (q - p) < w64 (p - q))
  ·simp only [bif_f, Option.bind_some]
   cases decide (12 < w64 (q - p)) <;> cases decide (p < q) <;> cases decide (tone q ∈ a.2.1) <;> cases decide (q < p) <;> cases decide (tone q ∈ a.2.2.1) <;> exact ⟨_, rfl, by first | decide | exact hf⟩
  ·simp only [bif_t, Option.bind_some]
   cases decide (12 < w64 (p - q)) <;> cases decide (p < q) <;> cases decide (tone q ∈ a.2.1) <;> cases decide (q < p) <;> cases decide (tone q ∈ a.2.2.1) <;> exact ⟨_, rfl, by first | decide | exact hf⟩
 obtain ⟨r, hr, h⟩ := key
 unfold rsn
 rw [hr]; exact h
theorem reason_eq {a : TRaga} (o : OkRaga a) (h2 : ∀ q ∈ a.2.2.2.2.2, ∃ x y, q = [x, y]) {p q : Int} (hp : -100 ≤ p ∧ p ≤ 100) (hq : -100 ≤ q ∧ q ≤ 100) : F_spec_l05Reason a p q = some (rsn a p q) ∧ F_impl_Raga_reason a p q = some (rsn a p q) ∧ 0 ≤ rsn a p q := by
 obtain ⟨r, e1, e2, e3⟩ := reason_ex o h2 hp hq
 have : rsn a p q = r := by unfold rsn; rw [e1]; rfl
 rw [this]; exact ⟨e1, e2, e3⟩
end Go.Ab
set_option linter.unusedVariables false
set_option linter.unusedSimpArgs false
namespace Go.Ab
open Go.RowKit
def pits (a : TRaga) (lo : Int) (n : Nat) : List Int := ((List.range n).map fun (j : Nat) => lo + (j : Int)).filter fun p => toneIn a (tone p)
theorem pits_succ (a : TRaga) (lo : Int) (n : Nat) : pits a lo (n + 1) = pits a lo n ++ (if toneIn a (tone (lo + n)) = true then [lo + (n : Int)] else []) := by
 unfold pits
 rw [List.range_succ, List.map_append, List.filter_append]
 congr 1
 cases h : toneIn a (tone (lo + n)) <;> simp [h]
theorem pits_len (a : TRaga) (lo : Int) (n : Nat) : (pits a lo n).length ≤ n := by
 unfold pits
 refine Nat.le_trans (List.length_filter_le _ _) ?_
 simp
theorem pits_in {a : TRaga} {lo : Int} {n : Nat} {p : Int} (h : p ∈ pits a lo n) : lo ≤ p ∧ p < lo + n := by
 unfold pits at h
 obtain ⟨h1, _⟩ := List.mem_filter.1 h
 obtain ⟨j, hj, rfl⟩ := List.mem_map.1 h1
 have := List.mem_range.1 hj
 omega
theorem pits_pw (a : TRaga) (lo : Int) (n : Nat) : List.Pairwise (fun x y : Int => x < y) (pits a lo n) := by
 unfold pits
 refine List.Pairwise.filter _ (List.pairwise_map.2 (List.pairwise_lt_range.imp ?_))
 intro x y h
 omega
def finL (L : List Int) : List Int := (L.zipIdx.filter fun x => decide (tone x.1 = 0)).map fun x => (x.2 : Int) + 1
def arc1 (L : List Int) : List TArc := L.zipIdx.map fun x => ((0 : Int), x.1, (x.2 : Int) + 1)
noncomputable def rowA (a : TRaga) (K : List Int) (p : Int) (i : Nat) : List TArc := (K.zipIdx.filter fun y => decide (rsn a p y.1 = 0)).map fun y => ((i : Int) + 1, y.1, (y.2 : Int) + 1)
noncomputable def arc2 (a : TRaga) (L M : List Int) : List TArc := M.zipIdx.flatMap fun x => rowA a L x.1 x.2
theorem zip_snoc (L : List Int) (p : Int) : (L ++ [p]).zipIdx = L.zipIdx ++ [(p, L.length)] := by simp [List.zipIdx_append]
theorem finL_snoc (L : List Int) (p : Int) : finL (L ++ [p]) = finL L ++ (if tone p = 0 then [(L.length : Int) + 1] else []) := by
 unfold finL
 rw [zip_snoc, List.filter_append, List.map_append]
 congr 1
 by_cases h : tone p = 0 <;> simp [h]
theorem arc1_snoc (L : List Int) (p : Int) : arc1 (L ++ [p]) = arc1 L ++ [((0 : Int), p, (L.length : Int) + 1)] := by
 unfold arc1
 rw [zip_snoc, List.map_append]; rfl
theorem rowA_snoc (a : TRaga) (K : List Int) (q p : Int) (i : Nat) : rowA a (K ++ [q]) p i = rowA a K p i ++ (if rsn a p q = 0 then [((i : Int) + 1, q, (K.length : Int) + 1)] else []) := by
 unfold rowA
 rw [zip_snoc, List.filter_append, List.map_append]
 congr 1
 by_cases h : rsn a p q = 0 <;> simp [h]
theorem arc2_snoc (a : TRaga) (L M : List Int) (p : Int) : arc2 a L (M ++ [p]) = arc2 a L M ++ rowA a L p M.length := by
 unfold arc2
 rw [zip_snoc, List.flatMap_append]
 simp
theorem finL_len (L : List Int) : (finL L).length ≤ L.length := by
 unfold finL
 rw [List.length_map]
 refine Nat.le_trans (List.length_filter_le _ _) ?_
 rw [List.length_zipIdx]; exact Nat.le_refl _
theorem arc1_len (L : List Int) : (arc1 L).length = L.length := by unfold arc1; rw [List.length_map, List.length_zipIdx]
theorem room24 {n : Nat} (h : n ≤ 100000) : room n 24 := ⟨by omega, by omega⟩
theorem room8 {n : Nat} (h : n ≤ 100000) : room n 8 := ⟨by omega, by omega⟩
theorem take_len {α : Type} {L : List α} {i : Nat} (h : i < L.length) : (L.take i).length = i := by rw [List.length_take]; omega
section
variable {a : TRaga}
theorem spec_l2 (o : OkRaga a) (h2 : ∀ q ∈ a.2.2.2.2.2, ∃ x y, q = [x, y]) {L fins : List Int} {acc0 : List TArc} (hb : ∀ p ∈ L, -100 ≤ p ∧ p ≤ 100) (hl : L.length ≤ 36) (h0 : acc0.length ≤ 36) :
  loop (F_spec_l07Of_l2 a L fins) (0, acc0) = some ((L.length : Int) + 1, 0, fins, acc0 ++ arc2 a L L) := by
 obtain ⟨r, e, hr⟩ := loop_ex (body := F_spec_l07Of_l2 a L fins) (s0 := (0, acc0)) (L := L) (Q := fun r => r = ((L.length : Int) + 1, 0, fins, acc0 ++ arc2 a L L))
  (fun i s => s.1 = (i : Int) ∧ s.2 = acc0 ++ arc2 a L (L.take i) ∧ s.2.length ≤ 36 + i * 36) (by omega) ⟨rfl, by simp [arc2], by dsimp only; omega⟩
  (by
   rintro i ⟨_, acc⟩ K p hp hi ⟨rfl, g1, g2⟩ hK
   dsimp only at g1 g2
   have hlt := get_lt hp
   simp only [F_spec_l07Of_l2, int_lt hlt, bif_t]
   refine loop_ex (L := L) (fun k s => s.1 = (k : Int) ∧ s.2 = acc ++ rowA a (L.take k) p i ∧ s.2.length ≤ acc.length + k) (by omega) ⟨rfl, by simp [rowA], by dsimp only; omega⟩ ?_ ?_
   ·rintro k ⟨_, ac⟩ K1 q hq hk ⟨rfl, q1, q2⟩ hK1
    dsimp only at q1 q2
    have hltk := get_lt hq
    have hr := (reason_eq o h2 (hb p (get_mem hp)) (hb q (get_mem hq))).1
    have hroom : room (ac.length + ([(w64 ((i : Int) + 1), q, ((k + 1 : Nat) : Int))] : List TArc).length) 24 := room24 (by simp only [List.length_singleton]; omega)
    simp only [F_spec_l07Of_l3, int_lt hltk, bif_t, ix_get hp, ix_get hq, Option.bind_some, hr, need_true hroom, bif_dec, w64_succ hk]
    have ht : L.take (k + 1) = L.take k ++ [q] := take_succ hq
    split
    ·rename_i h
     refine hK1 _ ⟨rfl, ?_, by simp only [List.length_append, List.length_singleton]; omega⟩
     dsimp only
     rw [ht, rowA_snoc, if_pos h, take_len hltk, q1, List.append_assoc, w64_id (show -9223372036854775808 ≤ (i : Int) + 1 ∧ (i : Int) + 1 ≤ 9223372036854775807 by omega), show ((k + 1 : Nat) : Int) = (k : Int) + 1 by omega]
    ·rename_i h
     refine hK1 _ ⟨rfl, ?_, by dsimp only; omega⟩
     dsimp only
     rw [ht, rowA_snoc, if_neg h, List.append_nil, q1]
   ·rintro ⟨_, ac⟩ K1 ⟨rfl, q1, q2⟩
    dsimp only at q1 q2
    simp only [F_spec_l07Of_l3, int_lt_self, bif_f, w64_succ hi]
    rw [take_all (Nat.le_refl _)] at q1
    refine hK _ ⟨rfl, ?_, by dsimp only; omega⟩
    dsimp only
    rw [take_succ hp, arc2_snoc, take_len hlt, q1, g1, List.append_assoc])
  (by
   rintro ⟨_, acc⟩ K ⟨rfl, g1, g2⟩
   dsimp only at g1 g2
   rw [take_all (Nat.le_refl _)] at g1
   refine ⟨_, ?_, rfl⟩
   simp only [F_spec_l07Of_l2, int_lt_self, bif_f]
   rw [g1, w64_id (by omega)])
 rw [e, hr]
theorem impl_l6 (o : OkRaga a) (h2 : ∀ q ∈ a.2.2.2.2.2, ∃ x y, q = [x, y]) {L fins : List Int} {acc0 : List TArc} {next : Int} (hb : ∀ p ∈ L, -100 ≤ p ∧ p ≤ 100) (hl : L.length ≤ 36) (h0 : acc0.length ≤ 36) :
  ∃ g c, loop (F_impl_GrammarOf_l6 a next L fins) (0, acc0) = some (g, c) ∧ decide (c = 0) = (!decide (32 < next) && !decide ((256 : Int) < ((acc0 ++ arc2 a L L).length : Int))) ∧ (c = 0 → g = (next, 0, fins, acc0 ++ arc2 a L L)) := by
 obtain ⟨r, e, hr⟩ := loop_ex (body := F_impl_GrammarOf_l6 a next L fins) (s0 := (0, acc0)) (L := L) (Q := fun r => decide (r.2 = 0) = (!decide (32 < next) && !decide ((256 : Int) < ((acc0 ++ arc2 a L L).length : Int))) ∧ (r.2 = 0 → r.1 = (next, 0, fins, acc0 ++ arc2 a L L)))
  (fun i s => s.1 = (i : Int) ∧ s.2 = acc0 ++ arc2 a L (L.take i) ∧ s.2.length ≤ 36 + i * 36) (by omega) ⟨rfl, by simp [arc2], by dsimp only; omega⟩
  (by
   rintro i ⟨_, acc⟩ K p hp hi ⟨rfl, g1, g2⟩ hK
   dsimp only at g1 g2
   have hlt := get_lt hp
   simp only [F_impl_GrammarOf_l6, int_lt hlt, bif_t, ix_get hp, Option.bind_some]
   refine loop_ex (L := L) (fun k s => s.1 = (k : Int) ∧ s.2 = acc ++ rowA a (L.take k) p i ∧ s.2.length ≤ acc.length + k) (by omega) ⟨rfl, by simp [rowA], by dsimp only; omega⟩ ?_ ?_
   ·rintro k ⟨_, ac⟩ K1 q hq hk ⟨rfl, q1, q2⟩ hK1
    dsimp only at q1 q2
    have hltk := get_lt hq
    have hr := (reason_eq o h2 (hb p (get_mem hp)) (hb q (get_mem hq))).2.1
    have hroom : room (ac.length + ([(w64 ((i : Int) + 1), q, ((k + 1 : Nat) : Int))] : List TArc).length) 24 := room24 (by simp only [List.length_singleton]; omega)
    simp only [F_impl_GrammarOf_l7, int_lt hltk, bif_t, ix_get hq, Option.bind_some, hr, need_true hroom, bif_dec, w64_succ hk]
    have ht : L.take (k + 1) = L.take k ++ [q] := take_succ hq
    split
    ·rename_i h
     refine hK1 _ ⟨rfl, ?_, by simp only [List.length_append, List.length_singleton]; omega⟩
     dsimp only
     rw [ht, rowA_snoc, if_pos h, take_len hltk, q1, List.append_assoc, w64_id (show -9223372036854775808 ≤ (i : Int) + 1 ∧ (i : Int) + 1 ≤ 9223372036854775807 by omega), show ((k + 1 : Nat) : Int) = (k : Int) + 1 by omega]
    ·rename_i h
     refine hK1 _ ⟨rfl, ?_, by dsimp only; omega⟩
     dsimp only
     rw [ht, rowA_snoc, if_neg h, List.append_nil, q1]
   ·rintro ⟨_, ac⟩ K1 ⟨rfl, q1, q2⟩
    dsimp only at q1 q2
    simp only [F_impl_GrammarOf_l7, int_lt_self, bif_f, w64_succ hi]
    rw [take_all (Nat.le_refl _)] at q1
    refine hK _ ⟨rfl, ?_, by dsimp only; omega⟩
    dsimp only
    rw [take_succ hp, arc2_snoc, take_len hlt, q1, g1, List.append_assoc])
  (by
   rintro ⟨_, acc⟩ K ⟨rfl, g1, g2⟩
   dsimp only at g1 g2
   rw [take_all (Nat.le_refl _)] at g1
   simp only [F_impl_GrammarOf_l6, int_lt_self, bif_f]
   rw [g1]
   cases decide (32 < next)
   ·rw [bif_f]
    cases decide ((256 : Int) < ((acc0 ++ arc2 a L L).length : Int))
    ·exact ⟨_, rfl, rfl, fun _ => rfl⟩
    ·exact ⟨_, rfl, rfl, fun h => by cases h⟩
   ·exact ⟨_, rfl, rfl, fun h => by cases h⟩)
 obtain ⟨g, c⟩ := r
 exact ⟨g, c, e, hr⟩
theorem spec_l1 (o : OkRaga a) (h2 : ∀ q ∈ a.2.2.2.2.2, ∃ x y, q = [x, y]) {L : List Int} (hb : ∀ p ∈ L, -100 ≤ p ∧ p ≤ 100) (hl : L.length ≤ 36) :
  loop (F_spec_l07Of_l1 a L) (0, [], []) = some ((L.length : Int) + 1, 0, finL L, arc1 L ++ arc2 a L L) := by
 obtain ⟨r, e, hr⟩ := loop_ex (body := F_spec_l07Of_l1 a L) (s0 := (0, [], [])) (L := L) (Q := fun r => r = ((L.length : Int) + 1, 0, finL L, arc1 L ++ arc2 a L L))
  (fun i s => s = ((i : Int), finL (L.take i), arc1 (L.take i))) (by omega) rfl
  (by
   rintro i _ K p hp hi rfl hK
   have hlt := get_lt hp
   have hf := finL_len (L.take i)
   have ha := arc1_len (L.take i)
   rw [take_len hlt] at hf ha
   have hr1 : room ((arc1 (L.take i)).length + ([(0, p, ((i + 1 : Nat) : Int))] : List TArc).length) 24 := room24 (by simp only [List.length_singleton]; omega)
   have hr2 : room ((finL (L.take i)).length + ([((i + 1 : Nat) : Int)] : List Int).length) 8 := room8 (by simp only [List.length_singleton]; omega)
   simp only [F_spec_l07Of_l1, int_lt hlt, bif_t, ix_get hp, Option.bind_some, need_true hr1, need_true hr2, l03Tone_eq, bif_dec, w64_succ hi]
   have hc : (((i + 1 : Nat) : Int)) = (i : Int) + 1 := by omega
   split
   ·rename_i h
    refine hK _ ?_
    rw [take_succ hp, finL_snoc, arc1_snoc, if_pos h, take_len hlt, hc]
   ·rename_i h
    refine hK _ ?_
    rw [take_succ hp, finL_snoc, arc1_snoc, if_neg h, take_len hlt, hc, List.append_nil])
  (by
   rintro _ K rfl
   simp only [F_spec_l07Of_l1, int_lt_self, bif_f]
   rw [take_all (Nat.le_refl _)]
   have ha := arc1_len L
   exact ⟨_, spec_l2 o h2 hb hl (by omega), rfl⟩)
 rw [e, hr]
theorem spec_of (o : OkRaga a) (h2 : ∀ q ∈ a.2.2.2.2.2, ∃ x y, q = [x, y]) {lo hi : Int} (h : -12 ≤ lo ∧ lo ≤ hi ∧ hi ≤ 23) :
  F_spec_l07Of a lo hi = some (((pits a lo (hi + 1 - lo).toNat).length : Int) + 1, 0, finL (pits a lo (hi + 1 - lo).toNat), arc1 (pits a lo (hi + 1 - lo).toNat) ++ arc2 a (pits a lo (hi + 1 - lo).toNat) (pits a lo (hi + 1 - lo).toNat)) := by
 generalize hN : (hi + 1 - lo).toNat = N
 have hl := pits_len a lo N
 have hb : ∀ p ∈ pits a lo N, -100 ≤ p ∧ p ≤ 100 := fun p hp => by have := pits_in hp; omega
 unfold F_spec_l07Of
 obtain ⟨r, e, hr⟩ := loop_ex (body := F_spec_l07Of_l0 a hi) (s0 := (lo, [])) (L := List.range N) (Q := fun r => r = (((pits a lo N).length : Int) + 1, 0, finL (pits a lo N), arc1 (pits a lo N) ++ arc2 a (pits a lo N) (pits a lo N)))
  (fun i s => s = (lo + (i : Int), pits a lo i)) (by rw [List.length_range]; omega) (by simp [pits])
  (by
   rintro i _ K j hj hi2 rfl hK
   have hlt := get_lt hj
   rw [List.length_range] at hlt
   have hn := pits_len a lo i
   have hr1 : room ((pits a lo i).length + ([lo + (i : Int)] : List Int).length) 8 := room8 (by simp only [List.length_singleton]; omega)
   have hw : w64 (lo + (i : Int) + 1) = lo + ((i + 1 : Nat) : Int) := by rw [w64_id (by omega)]; omega
   have hle : decide (lo + (i : Int) ≤ hi) = true := decide_eq_true (by omega)
   simp only [F_spec_l07Of_l0, hle, bif_t, l03Tone_eq, Option.bind_some, l05Tone_eq o.2.1.1 o.2.2.1.1, need_true hr1, hw]
   have hs := pits_succ a lo i
   cases ht : toneIn a (tone (lo + i))
   ·rw [ht, if_neg (by simp), List.append_nil] at hs
    rw [bif_f]
    exact hK _ (by rw [hs])
   ·rw [ht, if_pos rfl] at hs
    rw [bif_t]
    exact hK _ (by rw [hs]))
  (by
   rintro _ K rfl
   rw [List.length_range]
   have hle : decide (lo + (N : Int) ≤ hi) = false := decide_eq_false (by omega)
   simp only [F_spec_l07Of_l0, hle, bif_f]
   exact ⟨_, spec_l1 o h2 hb (by omega), rfl⟩)
 rw [e, hr]
theorem impl_of (o : OkRaga a) (h2 : ∀ q ∈ a.2.2.2.2.2, ∃ x y, q = [x, y]) {lo hi : Int} (h : -12 ≤ lo ∧ lo ≤ hi ∧ hi ≤ 23) :
  ∃ g c, loop (F_impl_GrammarOf_l2 a hi) (lo, 1, [], [], []) = some (g, c) ∧ decide (c = 0) = (!decide ((32 : Int) < ((pits a lo (hi + 1 - lo).toNat).length : Int) + 1) && !decide ((256 : Int) < ((arc1 (pits a lo (hi + 1 - lo).toNat) ++ arc2 a (pits a lo (hi + 1 - lo).toNat) (pits a lo (hi + 1 - lo).toNat)).length : Int))) ∧ (c = 0 → g = (((pits a lo (hi + 1 - lo).toNat).length : Int) + 1, 0, finL (pits a lo (hi + 1 - lo).toNat), arc1 (pits a lo (hi + 1 - lo).toNat) ++ arc2 a (pits a lo (hi + 1 - lo).toNat) (pits a lo (hi + 1 - lo).toNat))) := by
 generalize hN : (hi + 1 - lo).toNat = N
 have hl := pits_len a lo N
 have hb : ∀ p ∈ pits a lo N, -100 ≤ p ∧ p ≤ 100 := fun p hp => by have := pits_in hp; omega
 obtain ⟨r, e, hr⟩ := loop_ex (body := F_impl_GrammarOf_l2 a hi) (s0 := (lo, 1, [], [], [])) (L := List.range N) (Q := fun r => decide (r.2 = 0) = (!decide ((32 : Int) < ((pits a lo N).length : Int) + 1) && !decide ((256 : Int) < ((arc1 (pits a lo N) ++ arc2 a (pits a lo N) (pits a lo N)).length : Int))) ∧ (r.2 = 0 → r.1 = (((pits a lo N).length : Int) + 1, 0, finL (pits a lo N), arc1 (pits a lo N) ++ arc2 a (pits a lo N) (pits a lo N))))
  (fun i s => s = (lo + (i : Int), ((pits a lo i).length : Int) + 1, pits a lo i, finL (pits a lo i), arc1 (pits a lo i))) (by rw [List.length_range]; omega) (by simp [pits, finL, arc1])
  (by
   rintro i _ K j hj hi2 rfl hK
   have hlt := get_lt hj
   rw [List.length_range] at hlt
   have hn := pits_len a lo i
   have hf := finL_len (pits a lo i)
   have ha := arc1_len (pits a lo i)
   have hr1 : room ((pits a lo i).length + ([lo + (i : Int)] : List Int).length) 8 := room8 (by simp only [List.length_singleton]; omega)
   have hr2 : room ((finL (pits a lo i)).length + ([((pits a lo i).length : Int) + 1] : List Int).length) 8 := room8 (by simp only [List.length_singleton]; omega)
   have hr3 : room ((arc1 (pits a lo i)).length + ([(0, lo + (i : Int), ((pits a lo i).length : Int) + 1)] : List TArc).length) 24 := room24 (by simp only [List.length_singleton]; omega)
   have hw : w64 (lo + (i : Int) + 1) = lo + ((i + 1 : Nat) : Int) := by rw [w64_id (by omega)]; omega
   have hw2 : w64 (((pits a lo i).length : Int) + 1 + 1) = ((pits a lo i).length : Int) + 1 + 1 := w64_id (by omega)
   have hle : decide (lo + (i : Int) ≤ hi) = true := decide_eq_true (by omega)
   have hs := pits_succ a lo i
   simp only [F_impl_GrammarOf_l2, F_impl_GrammarOf_j3, hle, bif_t, ToneOf_eq, Option.bind_some, hasTone_eq o.2.1.1 o.2.2.1.1, need_true hr1, need_true hr2, need_true hr3, hw, hw2, nif, bif_dec]
   cases ht : toneIn a (tone (lo + i))
   ·rw [ht, if_neg (by simp), List.append_nil] at hs
    rw [bif_f]
    exact hK _ (by rw [hs])
   ·rw [ht, if_pos rfl] at hs
    rw [bif_t]
    have hlen : ((pits a lo (i + 1)).length : Int) + 1 = ((pits a lo i).length : Int) + 1 + 1 := by rw [hs, List.length_append, List.length_singleton]; omega
    split
    ·rename_i h0
     refine hK _ ?_
     rw [hlen, hs, finL_snoc, arc1_snoc, if_pos h0]
    ·rename_i h0
     refine hK _ ?_
     rw [hlen, hs, finL_snoc, arc1_snoc, if_neg h0, List.append_nil])
  (by
   rintro _ K rfl
   rw [List.length_range]
   have hle : decide (lo + (N : Int) ≤ hi) = false := decide_eq_false (by omega)
   simp only [F_impl_GrammarOf_l2, hle, bif_f]
   have ha := arc1_len (pits a lo N)
   obtain ⟨g, c, e, hc⟩ := impl_l6 (next := ((pits a lo N).length : Int) + 1) (fins := finL (pits a lo N)) o h2 hb (show (pits a lo N).length ≤ 36 by omega) (show (arc1 (pits a lo N)).length ≤ 36 by omega)
   exact ⟨_, e, hc⟩)
 obtain ⟨g, c⟩ := r
 exact ⟨g, c, e, hr⟩
end
end Go.Ab
set_option linter.unusedVariables false
set_option linter.unusedSimpArgs false
namespace Go.Ab
open Go.RowKit
theorem zip_pw {L : List Int} (h : List.Pairwise (fun x y : Int => x < y) L) : List.Pairwise (fun x y : Int × Nat => x.1 < y.1 ∧ x.2 < y.2) L.zipIdx := by
 rw [List.pairwise_iff_getElem]
 intro i j hi hj hij
 rw [List.getElem_zipIdx, List.getElem_zipIdx]
 rw [List.length_zipIdx] at hi hj
 exact ⟨List.pairwise_iff_getElem.1 h i j hi hj hij, by dsimp only; omega⟩
theorem zip_in {L : List Int} {x : Int × Nat} (h : x ∈ L.zipIdx) : x.1 ∈ L ∧ x.2 < L.length := by
 have := List.mem_zipIdx_iff_getElem?.1 h
 exact ⟨get_mem this, get_lt this⟩
def alx (x y : TArc) : Prop := x.1 < y.1 ∨ (x.1 = y.1 ∧ x.2.1 < y.2.1)
theorem row_pw {a : TRaga} {L : List Int} (h : List.Pairwise (fun x y : Int => x < y) L) (p : Int) (i : Nat) : List.Pairwise alx (rowA a L p i) := by
 unfold rowA
 refine List.pairwise_map.2 (((zip_pw h).filter _).imp ?_)
 intro x y h
 exact .inr ⟨rfl, h.1⟩
theorem row_from {a : TRaga} {L : List Int} {p : Int} {i : Nat} {x : TArc} (h : x ∈ rowA a L p i) : x.1 = (i : Int) + 1 ∧ x.2.1 ∈ L ∧ 1 ≤ x.2.2 ∧ x.2.2 ≤ L.length := by
 unfold rowA at h
 obtain ⟨y, hy, rfl⟩ := List.mem_map.1 h
 obtain ⟨h1, h2⟩ := zip_in (List.mem_filter.1 hy).1
 exact ⟨rfl, h1, by dsimp only; omega, by dsimp only; omega⟩
theorem arcs_pw {a : TRaga} {L : List Int} (h : List.Pairwise (fun x y : Int => x < y) L) : List.Pairwise alx (arc1 L ++ arc2 a L L) := by
 rw [List.pairwise_append]
 refine ⟨?_, ?_, ?_⟩
 ·unfold arc1
  refine List.pairwise_map.2 ((zip_pw h).imp ?_)
  intro x y h
  exact .inr ⟨rfl, h.1⟩
 ·unfold arc2
  rw [List.pairwise_flatMap]
  refine ⟨fun x _ => row_pw h _ _, (zip_pw h).imp ?_⟩
  intro x y hxy u hu v hv
  have h1 := (row_from hu).1
  have h2 := (row_from hv).1
  have := hxy.2
  exact .inl (by omega)
 ·intro x hx y hy
  unfold arc1 at hx
  obtain ⟨z, _, rfl⟩ := List.mem_map.1 hx
  unfold arc2 at hy
  obtain ⟨u, _, hu⟩ := List.mem_flatMap.1 hy
  have := (row_from hu).1
  exact .inl (by dsimp only; omega)
theorem arcs_in {a : TRaga} {L : List Int} {x : TArc} (h : x ∈ arc1 L ++ arc2 a L L) : (0 ≤ x.1 ∧ x.1 ≤ L.length) ∧ x.2.1 ∈ L ∧ (0 ≤ x.2.2 ∧ x.2.2 ≤ L.length) := by
 rcases List.mem_append.1 h with h | h
 ·unfold arc1 at h
  obtain ⟨z, hz, rfl⟩ := List.mem_map.1 h
  obtain ⟨h1, h2⟩ := zip_in hz
  exact ⟨⟨by dsimp only; omega, by dsimp only; omega⟩, h1, by dsimp only; omega, by dsimp only; omega⟩
 ·unfold arc2 at h
  obtain ⟨u, hu, hx⟩ := List.mem_flatMap.1 h
  obtain ⟨_, h2⟩ := zip_in hu
  obtain ⟨h3, h4, h5, h6⟩ := row_from hx
  exact ⟨⟨by omega, by omega⟩, h4, by omega, by omega⟩
theorem fin_rises {L : List Int} (h : List.Pairwise (fun x y : Int => x < y) L) : rises (finL L) 0 (L.length : Int) = true := by
 unfold rises
 rw [adj_iff]
 have hp : List.Pairwise (fun x y : Int => x < y) (finL L) := by
  unfold finL
  refine List.pairwise_map.2 (((zip_pw h).filter _).imp ?_)
  intro x y h
  have := h.2
  omega
 refine ⟨fun x hx => ?_, fun i x y hx hy => ?_⟩
 ·unfold finL at hx
  obtain ⟨z, hz, rfl⟩ := List.mem_map.1 hx
  obtain ⟨h1, h2⟩ := zip_in (List.mem_filter.1 hz).1
  exact decide_eq_true (by omega)
 ·have h1 := get_lt hx
  have h2 := get_lt hy
  have := List.pairwise_iff_getElem.1 hp i (i + 1) h1 h2 (by omega)
  rw [List.getElem?_eq_getElem h1] at hx
  rw [List.getElem?_eq_getElem h2] at hy
  cases hx; cases hy; exact decide_eq_true this
theorem l07Ok_eq {a : TRaga} {L : List Int} (h : List.Pairwise (fun x y : Int => x < y) L) (hb : ∀ p ∈ L, -12 ≤ p ∧ p ≤ 23) (hl : L.length ≤ 36) (hal : (arc1 L ++ arc2 a L L).length ≤ 100000) :
  F_spec_l07Ok ((L.length : Int) + 1, 0, finL L, arc1 L ++ arc2 a L L) = some (!decide ((32 : Int) < (L.length : Int) + 1) && !decide ((256 : Int) < ((arc1 L ++ arc2 a L L).length : Int))) := by
 have hw : w64 ((L.length : Int) + 1 - 1) = (L.length : Int) := by rw [w64_id (by omega)]; omega
 have hf := finL_len L
 have hpw := arcs_pw (a := a) h
 have hin : ∀ x ∈ arc1 L ++ arc2 a L L, _ := fun x hx => arcs_in hx
 unfold F_spec_l07Ok
 dsimp only
 rw [l00In_eq, hw, l00In_eq, l00Rises_eq (by omega), fin_rises h]
 simp only [Option.bind_some, Bool.not_true, bif_f]
 rw [decide_eq_true (show (0 : Int) ≤ 0 ∧ (0 : Int) ≤ (L.length : Int) by omega), Bool.not_true, bif_f]
 by_cases h32 : (32 : Int) < (L.length : Int) + 1
 ·rw [decide_eq_false (show ¬ (1 ≤ (L.length : Int) + 1 ∧ (L.length : Int) + 1 ≤ 32) by omega), decide_eq_true h32]; rfl
 ·rw [decide_eq_true (show 1 ≤ (L.length : Int) + 1 ∧ (L.length : Int) + 1 ≤ 32 by omega), decide_eq_false h32]
  simp only [Bool.not_true, bif_f, Bool.not_false, Bool.true_and]
  cases decide ((256 : Int) < ((arc1 L ++ arc2 a L L).length : Int))
  ·rw [bif_f]
   have e : loop (F_spec_l07Ok_l0 ((L.length : Int) + 1, 0, finL L, arc1 L ++ arc2 a L L)) 0 = some (adj (fun x : TArc => decide (0 ≤ x.1 ∧ x.1 ≤ (L.length : Int)) && (decide (-12 ≤ x.2.1 ∧ x.2.1 ≤ 23) && decide (0 ≤ x.2.2 ∧ x.2.2 ≤ (L.length : Int)))) (fun q x => !decide (x.1 < q.1) && !(decide (q.1 = x.1) && decide (x.2.1 ≤ q.2.1))) none (arc1 L ++ arc2 a L L) && true) := by
    generalize hAA : arc1 L ++ arc2 a L L = AA at hal
    refine loop_adj (A := AA) (by omega) ?_ ?_ ?_
    ·intro k x hx
     have h0 : (0 : Int) = ((0 : Nat) : Int) := rfl
     rw [h0]
     simp only [F_spec_l07Ok_l0, F_spec_l03Pitch, int_lt (get_lt hx), bif_t, ix_get hx, Option.bind_some, l00In_eq, nif, hw]
     cases decide (((0 : Nat) : Int) ≤ x.1 ∧ x.1 ≤ (L.length : Int)) <;> cases decide (-12 ≤ x.2.1 ∧ x.2.1 ≤ 23) <;> cases decide (((0 : Nat) : Int) ≤ x.2.2 ∧ x.2.2 ≤ (L.length : Int)) <;> rfl
    ·intro i k q x hq hx hi
     simp only [F_spec_l07Ok_l0, F_spec_l03Pitch, int_lt (get_lt hx), bif_t, ix_get hx, Option.bind_some, l00In_eq, nif, hw, int_pos', w64_pred (show i < 9223372036854775807 by omega), w64_succ hi, ix_get hq]
     cases decide (0 ≤ x.1 ∧ x.1 ≤ (L.length : Int)) <;> cases decide (-12 ≤ x.2.1 ∧ x.2.1 ≤ 23) <;> cases decide (0 ≤ x.2.2 ∧ x.2.2 ≤ (L.length : Int)) <;> cases decide (x.1 < q.1) <;> cases decide (q.1 = x.1) <;> cases decide (x.2.1 ≤ q.2.1) <;> rfl
    ·intro k
     simp only [F_spec_l07Ok_l0, int_lt_self, bif_f]
   rw [e, Bool.and_true, Bool.not_false]
   congr 1
   rw [adj_iff]
   refine ⟨fun x hx => ?_, fun i x y hx hy => ?_⟩
   ·obtain ⟨g1, g2, g3⟩ := hin x hx
    have := hb _ g2
    rw [decide_eq_true g1, decide_eq_true this, decide_eq_true g3]; rfl
   ·have h1 := get_lt hx
    have h2 := get_lt hy
    have := List.pairwise_iff_getElem.1 hpw i (i + 1) h1 h2 (by omega)
    rw [List.getElem?_eq_getElem h1] at hx
    rw [List.getElem?_eq_getElem h2] at hy
    cases hx; cases hy
    rcases this with h | ⟨h3, h4⟩
    ·rw [decide_eq_false (by omega), decide_eq_false (by omega)]; rfl
    ·rw [decide_eq_false (by omega), decide_eq_true h3, decide_eq_false (by omega)]; rfl
  ·rfl
theorem arc2_len (a : TRaga) (L : List Int) (hl : L.length ≤ 36) : ∀ M : List Int, (arc2 a L M).length ≤ M.length * 36 := by
 intro M
 unfold arc2
 rw [List.length_flatMap]
 have : ∀ N : List (Int × Nat), (N.map fun x => (rowA a L x.1 x.2).length).sum ≤ N.length * 36 := by
  intro N
  induction N with
  | nil => simp
  | cons x N ih =>
   have hx : (rowA a L x.1 x.2).length ≤ 36 := by
    unfold rowA
    rw [List.length_map]
    refine Nat.le_trans (List.length_filter_le _ _) ?_
    rw [List.length_zipIdx]; exact hl
   simp only [List.map_cons, List.sum_cons, List.length_cons]
   omega
 have h := this M.zipIdx
 rw [List.length_zipIdx] at h
 exact h
end Go.Ab
set_option linter.unusedVariables false
set_option linter.unusedSimpArgs false
namespace Go.Ab
open Go.RowKit
theorem Or2_eq (x y : Int) : F_cmp_Or_int [x, y] = some (if x = 0 then y else x) := by
 unfold F_cmp_Or_int
 have := loop_sfx (body := F_cmp_Or_int_l0 [x, y]) (L := [x, y]) (fun t => (t.find? (fun z => decide (z ≠ 0))).getD 0) (by simp) ?_ ?_
 ·rw [this]
  by_cases h : x = 0
  ·by_cases h2 : y = 0 <;> simp [List.find?, h, h2]
  ·simp [List.find?, h]
 ·intro i k a t ha hi hk
  simp only [F_cmp_Or_int_l0, int_lt (get_lt ha), bif_t, ix_get ha, Option.bind_some, w64_succ hi, bif_dec, hk]
  by_cases h : a = 0 <;> simp [List.find?, h]
 ·intro k
  simp only [F_cmp_Or_int_l0, int_lt_self, bif_f]
  rfl
def arcBef (q x : TArc) : Bool := decide (q.1 < x.1) || (decide (q.1 = x.1) && decide (q.2.1 < x.2.1))
theorem cmpArc (q x : TArc) : ∃ c, F_impl_compareArcs q x = some c ∧ decide (0 ≤ c) = !arcBef q x := by
 refine ⟨if cmpI q.1 x.1 = 0 then cmpI q.2.1 x.2.1 else cmpI q.1 x.1, ?_, ?_⟩
 ·unfold F_impl_compareArcs
  rw [cmpI_eq, cmpI_eq, Option.bind_some, Option.bind_some, Or2_eq]; rfl
 ·unfold arcBef cmpI
  rcases Int.lt_trichotomy q.1 x.1 with h | h | h
  ·simp [h]
  ·rw [h]
   rcases Int.lt_trichotomy q.2.1 x.2.1 with h2 | h2 | h2
   ·simp [h2]
   ·rw [h2]; simp
   ·have : ¬ q.2.1 < x.2.1 := by omega
    simp [h2, this]
  ·have h1 : ¬ q.1 < x.1 := by omega
   have h2 : ¬ q.1 = x.1 := by omega
   simp [h, h1, h2]
theorem inc_ok {F : List Int} {n : Int} (hF : F.length ≤ 100000) (h : rises F 0 n = true) : F_impl_increasing F = some true ∧ (F.all fun x => decide (0 ≤ x ∧ x ≤ n)) = true := by
 unfold rises at h
 rw [adj_iff] at h
 refine ⟨?_, by rw [List.all_eq_true]; exact h.1⟩
 by_cases h0 : 1 ≤ F.length
 ·rw [increasing_eq (by omega) h0]
  congr 1
  rw [adj_iff]
  exact ⟨fun _ _ => rfl, h.2⟩
 ·have : F = [] := List.eq_nil_of_length_eq_zero (by omega)
  subst this
  unfold F_impl_increasing
  obtain ⟨m, hm⟩ : ∃ m, lim = m + 1 := ⟨lim - 1, by unfold lim; omega⟩
  unfold loop
  rw [hm, iter]
  rfl
theorem ValidGrammar_ok {a : TRaga} {L : List Int} (h : List.Pairwise (fun x y : Int => x < y) L) (hb : ∀ p ∈ L, -12 ≤ p ∧ p ≤ 23) (hl : L.length ≤ 31) (hal : (arc1 L ++ arc2 a L L).length ≤ 256) :
  F_impl_ValidGrammar ((L.length : Int) + 1, 0, finL L, arc1 L ++ arc2 a L L) = some true := by
 have hw : w64 ((L.length : Int) + 1 - 1) = (L.length : Int) := by rw [w64_id (by omega)]; omega
 have hf := finL_len L
 have hpw := arcs_pw (a := a) h
 have hin : ∀ x ∈ arc1 L ++ arc2 a L L, _ := fun x hx => arcs_in hx
 obtain ⟨i1, i2⟩ := inc_ok (by omega) (fin_rises h)
 unfold F_impl_ValidGrammar F_impl_Grammar_hasState
 dsimp only
 simp only [within_eq, hw, Option.bind_some, i1, allWithin_eq (show (finL L).length ≤ 9223372036854775807 by omega), i2]
 rw [decide_eq_true (show 1 ≤ (L.length : Int) + 1 ∧ (L.length : Int) + 1 ≤ 32 by omega), decide_eq_true (show (0 : Int) ≤ 0 ∧ (0 : Int) ≤ (L.length : Int) by omega), decide_eq_false (show ¬ (256 : Int) < ((arc1 L ++ arc2 a L L).length : Int) by omega)]
 simp only [Bool.not_true, bif_f]
 have e : loop (F_impl_ValidGrammar_l0 ((L.length : Int) + 1, 0, finL L, arc1 L ++ arc2 a L L)) 0 = some (adj (fun x : TArc => decide (0 ≤ x.1 ∧ x.1 ≤ (L.length : Int)) && (decide (0 ≤ x.2.2 ∧ x.2.2 ≤ (L.length : Int)) && decide (-12 ≤ x.2.1 ∧ x.2.1 ≤ 23))) arcBef none (arc1 L ++ arc2 a L L) && true) := by
  generalize hAA : arc1 L ++ arc2 a L L = AA at hal
  refine loop_adj (A := AA) (by omega) ?_ ?_ ?_
  ·intro k x hx
   have h0 : (0 : Int) = ((0 : Nat) : Int) := rfl
   rw [h0]
   simp only [F_impl_ValidGrammar_l0, F_impl_Grammar_hasState, F_impl_pitchOk, int_lt (get_lt hx), bif_t, ix_get hx, Option.bind_some, within_eq, nif, hw]
   cases decide (((0 : Nat) : Int) ≤ x.1 ∧ x.1 ≤ (L.length : Int)) <;> cases decide (-12 ≤ x.2.1 ∧ x.2.1 ≤ 23) <;> cases decide (((0 : Nat) : Int) ≤ x.2.2 ∧ x.2.2 ≤ (L.length : Int)) <;> rfl
  ·intro i k q x hq hx hi
   obtain ⟨c, e1, e2⟩ := cmpArc q x
   simp only [F_impl_ValidGrammar_l0, F_impl_Grammar_hasState, F_impl_pitchOk, int_lt (get_lt hx), bif_t, ix_get hx, Option.bind_some, within_eq, nif, hw, int_pos', w64_pred (show i < 9223372036854775807 by omega), w64_succ hi, ix_get hq, e1, e2]
   cases decide (0 ≤ x.1 ∧ x.1 ≤ (L.length : Int)) <;> cases decide (-12 ≤ x.2.1 ∧ x.2.1 ≤ 23) <;> cases decide (0 ≤ x.2.2 ∧ x.2.2 ≤ (L.length : Int)) <;> rfl
  ·intro k
   simp only [F_impl_ValidGrammar_l0, int_lt_self, bif_f]
 rw [e, Bool.and_true]
 congr 1
 rw [adj_iff]
 refine ⟨fun x hx => ?_, fun i x y hx hy => ?_⟩
 ·obtain ⟨g1, g2, g3⟩ := hin x hx
  have := hb _ g2
  rw [decide_eq_true g1, decide_eq_true this, decide_eq_true g3]; rfl
 ·have h1 := get_lt hx
  have h2 := get_lt hy
  have := List.pairwise_iff_getElem.1 hpw i (i + 1) h1 h2 (by omega)
  rw [List.getElem?_eq_getElem h1] at hx
  rw [List.getElem?_eq_getElem h2] at hy
  cases hx; cases hy
  unfold arcBef
  rcases this with h | ⟨h3, h4⟩
  ·rw [decide_eq_true h]; rfl
  ·rw [decide_eq_true h3, decide_eq_true h4]; simp
def hit (s p : Int) (x : TArc) : Bool := decide (x.1 = s) && decide (x.2.1 = p)
def stp (A : List TArc) (s p : Int) : Int := match A.find? (hit s p) with
 | some x => x.2.2
 | none => -1
theorem l07Step_eq {g : TGrammar} (hA : g.2.2.2.length ≤ 100000) (s p : Int) : F_spec_l07Step g s p = some (stp g.2.2.2 s p) := by
 unfold F_spec_l07Step
 refine loop_sfx (body := F_spec_l07Step_l0 g s p) (L := g.2.2.2) (fun t => stp t s p) (by omega) ?_ ?_
 ·intro i k x t hx hi hk
  simp only [F_spec_l07Step_l0, F_spec_l07Step_j1, int_lt (get_lt hx), bif_t, ix_get hx, Option.bind_some, w64_succ hi, hk]
  unfold stp hit
  rw [List.find?_cons]
  cases decide (x.1 = s)
  ·rfl
  ·cases decide (x.2.1 = p) <;> rfl
 ·intro k
  simp only [F_spec_l07Step_l0, int_lt_self, bif_f]
  rfl
theorem arcsOf_eq {g : TGrammar} (hA : g.2.2.2.length ≤ 10000) (s : Int) : F_impl_Grammar_arcsOf g s = some (g.2.2.2.filter fun x => decide (x.1 = s)) := by
 unfold F_impl_Grammar_arcsOf
 obtain ⟨r, e, hr⟩ := loop_ex (body := F_impl_Grammar_arcsOf_l0 g s) (s0 := (0, [])) (L := g.2.2.2) (Q := fun r => r = g.2.2.2.filter fun x => decide (x.1 = s))
  (fun i st => st.1 = (i : Int) ∧ st.2 = (g.2.2.2.take i).filter fun x => decide (x.1 = s)) (by omega) ⟨rfl, rfl⟩
  (by
   rintro i ⟨_, acc⟩ k x hx hi ⟨rfl, hacc⟩ hk
   dsimp only at hacc
   subst hacc
   have hlen : ((g.2.2.2.take i).filter fun x => decide (x.1 = s)).length ≤ 10000 := Nat.le_trans (List.length_filter_le _ _) (by rw [List.length_take]; omega)
   have hroom : room (((g.2.2.2.take i).filter fun x => decide (x.1 = s)).length + [x].length) 24 := room24 (by simp only [List.length_singleton]; omega)
   simp only [F_impl_Grammar_arcsOf_l0, int_lt (get_lt hx), bif_t, ix_get hx, Option.bind_some, w64_succ hi, need_true hroom]
   have ht : (g.2.2.2.take (i + 1)).filter (fun x => decide (x.1 = s)) = (g.2.2.2.take i).filter (fun x => decide (x.1 = s)) ++ [x].filter (fun x => decide (x.1 = s)) := by rw [take_succ hx, List.filter_append]
   cases hd : decide (x.1 = s)
   ·rw [bif_f]
    exact hk _ ⟨rfl, by dsimp only; rw [ht]; simp [hd]⟩
   ·rw [bif_t]
    exact hk _ ⟨rfl, by dsimp only; rw [ht]; simp [hd]⟩)
  (by
   rintro ⟨_, acc⟩ k ⟨rfl, hacc⟩
   dsimp only at hacc
   rw [take_all (Nat.le_refl _)] at hacc
   simp only [F_impl_Grammar_arcsOf_l0, int_lt_self, bif_f]
   exact ⟨_, rfl, hacc⟩)
 rw [e, hr]
theorem IndexA_eq {B : List TArc} (hB : B.length ≤ 100000) (p : Int) : ∃ r, F_slices_IndexFunc_SArc_Arc B p = some r ∧ ((B.find? (fun x => decide (x.2.1 = p)) = none ∧ r = -1) ∨ ∃ x, B.find? (fun x => decide (x.2.1 = p)) = some x ∧ 0 ≤ r ∧ ix B r = some x) := by
 unfold F_slices_IndexFunc_SArc_Arc
 refine loop_ex (body := F_slices_IndexFunc_SArc_Arc_l0 B p) (s0 := 0) (L := B) (fun i s => s = (i : Int) ∧ ∀ y ∈ B.take i, decide (y.2.1 = p) = false) (by omega) ⟨rfl, fun y hy => by simp at hy⟩ ?_ ?_
 ·rintro i _ k x hx hi ⟨rfl, hI⟩ hk
  simp only [F_slices_IndexFunc_SArc_Arc_l0, F_impl_Grammar_follow_1, int_lt (get_lt hx), bif_t, ix_get hx, Option.bind_some, w64_succ hi]
  cases hd : decide (x.2.1 = p)
  ·rw [bif_f]
   refine hk _ ⟨rfl, fun y hy => ?_⟩
   rw [take_succ hx] at hy
   rcases List.mem_append.1 hy with hy | hy
   ·exact hI y hy
   ·rw [List.mem_singleton.1 hy]; exact hd
  ·rw [bif_t]
   refine ⟨_, rfl, .inr ⟨x, ?_, by omega, ix_get hx⟩⟩
   have hsp : B = B.take i ++ x :: B.drop (i + 1) := by rw [← drop_cons hx, List.take_append_drop]
   rw [hsp, List.find?_append]
   have : (B.take i).find? (fun x => decide (x.2.1 = p)) = none := by
    rw [List.find?_eq_none]
    intro y hy
    rw [hI y hy]; decide
   rw [this, List.find?_cons, hd]; rfl
 ·rintro _ k ⟨rfl, hI⟩
  rw [take_all (Nat.le_refl _)] at hI
  simp only [F_slices_IndexFunc_SArc_Arc_l0, int_lt_self, bif_f]
  refine ⟨_, rfl, .inl ⟨?_, rfl⟩⟩
  rw [List.find?_eq_none]
  intro y hy
  rw [hI y hy]; decide
def runG (A : List TArc) : Int → List Int → Int → Int × Int
 | s, [], k => (s, k)
 | s, p :: t, k => if stp A s p < 0 then (s, k) else runG A (stp A s p) t (k + 1)
theorem runG_le (A : List TArc) : ∀ (P : List Int) (s k : Int), k ≤ (runG A s P k).2 ∧ (runG A s P k).2 ≤ k + P.length
 | [], s, k => by simp [runG]
 | p :: t, s, k => by
  simp only [runG, List.length_cons]
  split
  ·dsimp only; omega
  ·have := runG_le A t (stp A s p) (k + 1); omega
theorem run_loop {A : List TArc} {P : List Int} {s0 : Int} (hP : P.length ≤ 100000) {body : (Int × Int → Option TNote) → Int × Int → Option TNote}
  (more : ∀ (i : Nat) s p k, P[i]? = some p → i < 9223372036854775807 → body k (s, (i : Int)) = if stp A s p < 0 then some (s, (i : Int)) else k (stp A s p, ((i + 1 : Nat) : Int)))
  (done : ∀ s k, body k (s, (P.length : Int)) = some (s, (P.length : Int))) : loop body (s0, 0) = some (runG A s0 P 0) := by
 suffices H : ∃ r, loop body (s0, 0) = some r ∧ r = runG A s0 P 0 by
  obtain ⟨r, e, hr⟩ := H
  rw [e, hr]
 refine loop_ex (L := P) (fun i st => st.2 = (i : Int) ∧ runG A st.1 (P.drop i) (i : Int) = runG A s0 P 0) (by omega) ⟨rfl, rfl⟩ ?_ ?_
 ·rintro i ⟨s, _⟩ k p hp hi ⟨rfl, he⟩ hk
  dsimp only at he
  rw [more i s p k hp hi]
  rw [drop_cons hp] at he
  simp only [runG] at he
  by_cases hlt : stp A s p < 0
  ·rw [if_pos hlt] at he ⊢
   exact ⟨_, rfl, he⟩
  ·rw [if_neg hlt] at he ⊢
   exact hk _ ⟨rfl, by dsimp only; rw [show ((i + 1 : Nat) : Int) = (i : Int) + 1 by omega]; exact he⟩
 ·rintro ⟨s, _⟩ k ⟨rfl, he⟩
  dsimp only at he
  rw [List.drop_length] at he
  rw [done s k]
  exact ⟨_, rfl, he⟩
theorem Run_eq {g : TGrammar} (hA : g.2.2.2.length ≤ 10000) {P : List Int} (hP : P.length ≤ 100000) : F_spec_l07Run g P = some (runG g.2.2.2 g.2.1 P 0) := by
 unfold F_spec_l07Run
 refine run_loop hP ?_ ?_
 ·intro i s p k hp hi
  simp only [F_spec_l07Run_l0, int_lt (get_lt hp), bif_t, ix_get hp, Option.bind_some, l07Step_eq (show g.2.2.2.length ≤ 100000 by omega), w64_succ hi, bif_dec]
 ·intro s k
  simp only [F_spec_l07Run_l0, int_lt_self, bif_f]
theorem follow_eq {g : TGrammar} (hA : g.2.2.2.length ≤ 10000) (h0 : ∀ x ∈ g.2.2.2, 0 ≤ x.2.2) {P : List Int} (hP : P.length ≤ 100000) : F_impl_Grammar_follow g P = some (runG g.2.2.2 g.2.1 P 0) := by
 unfold F_impl_Grammar_follow
 refine run_loop hP ?_ ?_
 ·intro i s p k hp hi
  have hlen : (g.2.2.2.filter fun x => decide (x.1 = s)).length ≤ 10000 := Nat.le_trans (List.length_filter_le _ _) hA
  obtain ⟨r, e, hr⟩ := IndexA_eq (B := g.2.2.2.filter fun x => decide (x.1 = s)) (by omega) p
  have hfind : (g.2.2.2.filter fun x => decide (x.1 = s)).find? (fun x => decide (x.2.1 = p)) = g.2.2.2.find? (hit s p) := by
   rw [List.find?_filter]
   congr 1
   funext x
   unfold hit
   cases decide (x.1 = s) <;> cases decide (x.2.1 = p) <;> rfl
  rw [hfind] at hr
  simp only [F_impl_Grammar_follow_l0, int_lt (get_lt hp), bif_t, ix_get hp, Option.bind_some, arcsOf_eq hA, e, w64_succ hi]
  rcases hr with ⟨h1, rfl⟩ | ⟨x, h1, h2, h3⟩
  ·have hs : stp g.2.2.2 s p = -1 := by unfold stp; rw [h1]
   rw [hs]; rfl
  ·have hs : stp g.2.2.2 s p = x.2.2 := by unfold stp; rw [h1]
   have hx := h0 x (List.mem_of_find?_eq_some h1)
   rw [decide_eq_false (show ¬ r < 0 by omega), bif_f, h3, Option.bind_some, hs, if_neg (by omega)]
 ·intro s k
  simp only [F_impl_Grammar_follow_l0, int_lt_self, bif_f]
end Go.Ab
set_option linter.unusedVariables false
set_option linter.unusedSimpArgs false
namespace Go.Ab
open Go.RowKit
structure GoodW (w : TWork) : Prop where
 raga : ragaOk (w.1, w.2.1, w.2.2.1, w.2.2.2.1, w.2.2.2.2.1, w.2.2.2.2.2.1) = true
 lo : -12 ≤ w.2.2.2.2.2.2.1 ∧ w.2.2.2.2.2.2.1 ≤ 23
 hi : w.2.2.2.2.2.2.1 ≤ w.2.2.2.2.2.2.2.1 ∧ w.2.2.2.2.2.2.2.1 ≤ 23
 mel : melOk w.2.2.2.2.2.2.2.2.1 = true
 few : (!decide ((32 : Int) < ((pits (w.1, w.2.1, w.2.2.1, w.2.2.2.1, w.2.2.2.2.1, w.2.2.2.2.2.1) w.2.2.2.2.2.2.1 (w.2.2.2.2.2.2.2.1 + 1 - w.2.2.2.2.2.2.1).toNat).length : Int) + 1) && !decide ((256 : Int) < ((arc1 (pits (w.1, w.2.1, w.2.2.1, w.2.2.2.1, w.2.2.2.2.1, w.2.2.2.2.2.1) w.2.2.2.2.2.2.1 (w.2.2.2.2.2.2.2.1 + 1 - w.2.2.2.2.2.2.1).toNat) ++ arc2 (w.1, w.2.1, w.2.2.1, w.2.2.2.1, w.2.2.2.2.1, w.2.2.2.2.2.1) (pits (w.1, w.2.1, w.2.2.1, w.2.2.2.1, w.2.2.2.2.1, w.2.2.2.2.2.1) w.2.2.2.2.2.2.1 (w.2.2.2.2.2.2.2.1 + 1 - w.2.2.2.2.2.2.1).toNat) (pits (w.1, w.2.1, w.2.2.1, w.2.2.2.1, w.2.2.2.2.1, w.2.2.2.2.2.1) w.2.2.2.2.2.2.1 (w.2.2.2.2.2.2.2.1 + 1 - w.2.2.2.2.2.2.1).toNat)).length : Int))) = true
theorem two_of {a : TRaga} (hR : ragaOk a = true) : ∀ q ∈ a.2.2.2.2.2, ∃ x y, q = [x, y] := by
 intro q hq
 unfold ragaOk at hR
 simp only [Bool.and_eq_true] at hR
 have := hR.2.2.2.2.2.2
 unfold pairsOk at this
 rw [Bool.and_eq_true] at this
 exact pr2_two ((adj_all this.1).1 q hq)
theorem work_ex (w : TWork) (o : OkWork w) : ∃ r, F_spec_l31Ok w = some r ∧ F_impl_ValidWork w = some r ∧ (r = true → GoodW w) := by
 obtain ⟨oR, oLo, oHi, oM, oT, _, _, _, _, _, oU⟩ := o
 unfold F_spec_l31Ok F_impl_ValidWork F_impl_GrammarOf F_spec_l03Pitch F_impl_pitchOk
 rw [l05Ok_eq oR, ValidRaga_eq oR, l09Ok_eq oM.1, ValidMelody_eq oM.1, l23Ok_eq oU, ValidTurns_eq oU]
 simp only [Option.bind_some, l00In_eq, within_eq, nif]
 obtain ⟨cI, ei, hi⟩ := cad_impl oT w.2.2.2.2.2.2.2.2.2.2.2.2.1 w.2.2.2.2.2.2.2.2.2.2.2.2.2.2.1 w.2.2.2.2.2.2.2.2.2.2.2.2.2.2.2.1 w.2.2.2.2.2.2.2.2.2.2.2.2.2.2.2.2.1
 obtain ⟨cS, es, ep, eg, hs⟩ := cad_spec oT w.2.2.2.2.2.2.2.2.2.2.2.2.1 w.2.2.2.2.2.2.2.2.2.2.2.2.2.2.1 w.2.2.2.2.2.2.2.2.2.2.2.2.2.2.2.1 w.2.2.2.2.2.2.2.2.2.2.2.2.2.2.2.2.1
 rw [ei, es, ep, eg]
 simp only [Option.bind_some]
 rw [hi, ← hs]
 cases hR : ragaOk (w.1, w.2.1, w.2.2.1, w.2.2.2.1, w.2.2.2.2.1, w.2.2.2.2.2.1)
 ·exact ⟨false, rfl, rfl, fun h => by cases h⟩
 by_cases hp : -12 ≤ w.2.2.2.2.2.2.1 ∧ w.2.2.2.2.2.2.1 ≤ 23
 case neg => rw [decide_eq_false hp]; exact ⟨false, rfl, rfl, fun h => by cases h⟩
 by_cases hq : w.2.2.2.2.2.2.1 ≤ w.2.2.2.2.2.2.2.1 ∧ w.2.2.2.2.2.2.2.1 ≤ 23
 case neg => rw [decide_eq_true hp, decide_eq_false hq]; exact ⟨false, rfl, rfl, fun h => by cases h⟩
 rw [decide_eq_true hp, decide_eq_true hq]
 simp only [bif_t]
 have h2 := two_of hR
 have hsp := spec_of oR h2 (lo := w.2.2.2.2.2.2.1) (hi := w.2.2.2.2.2.2.2.1) ⟨hp.1, hq.1, hq.2⟩
 obtain ⟨g, c, hig, hc, _⟩ := impl_of oR h2 (lo := w.2.2.2.2.2.2.1) (hi := w.2.2.2.2.2.2.2.1) ⟨hp.1, hq.1, hq.2⟩
 rw [hsp, hig]
 simp only [Option.bind_some]
 have hN : (w.2.2.2.2.2.2.2.1 + 1 - w.2.2.2.2.2.2.1).toNat ≤ 36 := by omega
 have hNe : (w.2.2.2.2.2.2.1 : Int) + (((w.2.2.2.2.2.2.2.1 + 1 - w.2.2.2.2.2.2.1).toNat : Nat) : Int) ≤ 24 := by omega
 have hpl := pits_len (w.1, w.2.1, w.2.2.1, w.2.2.2.1, w.2.2.2.2.1, w.2.2.2.2.2.1) w.2.2.2.2.2.2.1 (w.2.2.2.2.2.2.2.1 + 1 - w.2.2.2.2.2.2.1).toNat
 have hpp := pits_pw (w.1, w.2.1, w.2.2.1, w.2.2.2.1, w.2.2.2.2.1, w.2.2.2.2.2.1) w.2.2.2.2.2.2.1 (w.2.2.2.2.2.2.2.1 + 1 - w.2.2.2.2.2.2.1).toNat
 have hpb : ∀ p ∈ pits (w.1, w.2.1, w.2.2.1, w.2.2.2.1, w.2.2.2.2.1, w.2.2.2.2.2.1) w.2.2.2.2.2.2.1 (w.2.2.2.2.2.2.2.1 + 1 - w.2.2.2.2.2.2.1).toNat, -12 ≤ p ∧ p ≤ 23 := fun p h => by have := pits_in h; omega
 have hfew : ∀ b : Bool, (!decide ((32 : Int) < ((pits (w.1, w.2.1, w.2.2.1, w.2.2.2.1, w.2.2.2.2.1, w.2.2.2.2.2.1) w.2.2.2.2.2.2.1 (w.2.2.2.2.2.2.2.1 + 1 - w.2.2.2.2.2.2.1).toNat).length : Int) + 1) && !decide ((256 : Int) < ((arc1 (pits (w.1, w.2.1, w.2.2.1, w.2.2.2.1, w.2.2.2.2.1, w.2.2.2.2.2.1) w.2.2.2.2.2.2.1 (w.2.2.2.2.2.2.2.1 + 1 - w.2.2.2.2.2.2.1).toNat) ++ arc2 (w.1, w.2.1, w.2.2.1, w.2.2.2.1, w.2.2.2.2.1, w.2.2.2.2.2.1) (pits (w.1, w.2.1, w.2.2.1, w.2.2.2.1, w.2.2.2.2.1, w.2.2.2.2.2.1) w.2.2.2.2.2.2.1 (w.2.2.2.2.2.2.2.1 + 1 - w.2.2.2.2.2.2.1).toNat) (pits (w.1, w.2.1, w.2.2.1, w.2.2.2.1, w.2.2.2.2.1, w.2.2.2.2.2.1) w.2.2.2.2.2.2.1 (w.2.2.2.2.2.2.2.1 + 1 - w.2.2.2.2.2.2.1).toNat)).length : Int))) = b → b = true → melOk w.2.2.2.2.2.2.2.2.1 = true → GoodW w := fun b h1 h2 h3 => ⟨hR, hp, hq, h3, by rw [h1]; exact h2⟩
 generalize pits (w.1, w.2.1, w.2.2.1, w.2.2.2.1, w.2.2.2.2.1, w.2.2.2.2.2.1) w.2.2.2.2.2.2.1 (w.2.2.2.2.2.2.2.1 + 1 - w.2.2.2.2.2.2.1).toNat = L at hc hpl hpp hpb hfew
 have hal : (arc1 L ++ arc2 (w.1, w.2.1, w.2.2.1, w.2.2.2.1, w.2.2.2.2.1, w.2.2.2.2.2.1) L L).length ≤ 100000 := by
  have h1 := arc1_len L
  have h3 := arc2_len (w.1, w.2.1, w.2.2.1, w.2.2.2.1, w.2.2.2.2.1, w.2.2.2.2.2.1) L (by omega) L
  rw [List.length_append]; omega
 rw [l07Ok_eq hpp hpb (by omega) hal, hc]
 simp only [Option.bind_some]
 generalize (!decide ((32 : Int) < (L.length : Int) + 1) && !decide ((256 : Int) < ((arc1 L ++ arc2 (w.1, w.2.1, w.2.2.1, w.2.2.2.1, w.2.2.2.2.1, w.2.2.2.2.2.1) L L).length : Int))) = b1 at hfew ⊢
 generalize hb2 : melOk w.2.2.2.2.2.2.2.2.1 = b2
 generalize turnsOk _ = b3
 generalize decide (cS = 0) = b4
 generalize decide (1 ≤ w.2.2.2.2.2.2.2.2.2.2.2.2.2.2.2.1 ∧ w.2.2.2.2.2.2.2.2.2.2.2.2.2.2.2.1 ≤ 64) = b5
 generalize decide (0 ≤ w.2.2.2.2.2.2.2.2.2.2.2.2.2.2.2.2.1 ∧ w.2.2.2.2.2.2.2.2.2.2.2.2.2.2.2.2.1 ≤ 32) = b6
 refine ⟨b1 && (b2 && (b3 && (b4 && (b5 && b6)))), ?_, ?_, fun h => ?_⟩
 ·cases b1 <;> cases b2 <;> cases b3 <;> cases b4 <;> cases b5 <;> cases b6 <;> rfl
 ·cases b1 <;> cases b2 <;> cases b3 <;> cases b4 <;> cases b5 <;> cases b6 <;> rfl
 ·simp only [Bool.and_eq_true] at h
  exact hfew b1 rfl h.1 (by rw [hb2]; exact h.2.1)
end Go.Ab
set_option linter.unusedVariables false
set_option linter.unusedSimpArgs false
namespace Go.Ab
open Go.RowKit
open Go.Lib (itoa decDigits)
def dg0 (u : Nat) : List UInt8 := if u = 0 then [] else decDigits u
theorem dg0_step {u : Nat} (h : u ≠ 0) : dg0 u = dg0 (u / 10) ++ [UInt8.ofNat (48 + u % 10)] := by
 unfold dg0
 rw [if_neg h, decDigits]
 by_cases h1 : u < 10
 ·rw [dif_pos h1, if_pos (by omega), Nat.mod_eq_of_lt h1]; rfl
 ·rw [dif_neg h1, if_neg (by omega)]
end Go.Ab
set_option linter.unusedVariables false
set_option linter.unusedSimpArgs false
namespace Go.Ab
open Go.RowKit
open Go.Lib (itoa decDigits)
theorem rev_loop (L : List Int) (hL : L.length ≤ 1000) : F_spec_l01Dec_j2 L = some (bytesI L.reverse) := by
 unfold F_spec_l01Dec_j2
 have key : ∀ (m : Nat) (acc : List Int) (n : Nat), m ≤ L.length → m < n → acc = (L.drop m).reverse → iter (F_spec_l01Dec_l3 L) n ((m : Int) - 1, acc) = some (bytesI L.reverse) := by
  intro m
  induction m with
  | zero =>
   intro acc n _ hn ha
   obtain ⟨n, rfl⟩ : ∃ n', n = n' + 1 := ⟨n - 1, by omega⟩
   show F_spec_l01Dec_l3 L (iter (F_spec_l01Dec_l3 L) n) _ = _
   simp only [F_spec_l01Dec_l3]
   rw [decide_eq_false (by omega), bif_f, ha]
   rfl
  | succ m ih =>
   intro acc n hm hn ha
   obtain ⟨n, rfl⟩ : ∃ n', n = n' + 1 := ⟨n - 1, by omega⟩
   show F_spec_l01Dec_l3 L (iter (F_spec_l01Dec_l3 L) n) _ = _
   obtain ⟨x, hx⟩ := get_some (L := L) (n := m) (by omega)
   have e1 : ((m + 1 : Nat) : Int) - 1 = (m : Int) := by omega
   have hl : acc.length ≤ 1000 := by rw [ha]; simp; omega
   simp only [F_spec_l01Dec_l3, e1]
   rw [decide_eq_true (by omega), bif_t, ix_get hx, Option.bind_some, need_true (p := room (acc.length + [x].length) 1) (show room (acc.length + 1) 1 from ⟨by omega, by omega⟩), w64_id (by omega)]
   refine ih _ n (by omega) (by omega) ?_
   rw [ha, drop_cons hx]; simp
 have hw : w64 ((L.length : Int) - 1) = (L.length : Int) - 1 := w64_id (by omega)
 rw [hw]
 exact key L.length [] lim (Nat.le_refl _) (lt_lim (by omega)) (by simp)
theorem l01Dec_eq (n : Int) (h : -9223372036854775808 ≤ n ∧ n ≤ 9223372036854775807) : F_spec_l01Dec n = some (itoa n) := by
 unfold F_spec_l01Dec
 by_cases h0 : n = 0
 ·subst h0; rw [decide_eq_true rfl, bif_t]; unfold itoa; rw [if_neg (by omega), decDigits, dif_pos (by decide)]; rfl
 rw [decide_eq_false h0, bif_f]
 suffices H : ∃ r, loop (F_spec_l01Dec_l0 n) (n, []) = some r ∧ r = itoa n by
  obtain ⟨r, e, hr⟩ := H
  rw [e, hr]
 refine loop_mu (fun s => (-9223372036854775808 ≤ s.1 ∧ s.1 ≤ 9223372036854775807) ∧ (s.1 ≠ 0 → (s.1 < 0 ↔ n < 0)) ∧ s.1.natAbs * 10 ^ s.2.length ≤ n.natAbs ∧ s.2.length ≤ 19 ∧ dg0 n.natAbs = dg0 s.1.natAbs ++ bytesI s.2.reverse)
  (fun s => s.1.natAbs) ⟨h, fun _ => Iff.rfl, by simp, by simp, by simp [bytesI]⟩ (by show n.natAbs < lim; unfold lim; omega) ?_
 rintro ⟨v, L⟩ k ⟨hv, hsg, hp, hl, hd⟩ hk
 dsimp only at hv hsg hp hl hd hk
 simp only [F_spec_l01Dec_l0]
 by_cases hz : v = 0
 ·subst hz
  rw [decide_eq_false (by simp), bif_f]
  have hd' : decDigits n.natAbs = bytesI L.reverse := by
   have : dg0 n.natAbs = decDigits n.natAbs := if_neg (by omega)
   rw [← this, hd]; simp [dg0]
  by_cases hn : n < 0
  ·rw [decide_eq_true hn, bif_t, need_true (p := room (L.length + [(45 : Int)].length) 1) (show room (L.length + 1) 1 from ⟨by omega, by omega⟩), rev_loop _ (by simp; omega)]
   refine ⟨_, rfl, ?_⟩
   unfold itoa
   rw [if_pos hn, hd']
   simp [bytesI]
  ·rw [decide_eq_false hn, bif_f, rev_loop _ (by omega)]
   refine ⟨_, rfl, ?_⟩
   unfold itoa
   rw [if_neg hn, show n.toNat = n.natAbs by omega, hd']
 ·rw [decide_eq_true hz, bif_t]
  obtain ⟨q1, q2⟩ : Int.tdiv v 10 = (if v < 0 then -((-v) / 10) else v / 10) ∧ Int.tmod v 10 = (if v < 0 then -((-v) % 10) else v % 10) := by
   split
   ·rename_i hv
    obtain ⟨u, rfl⟩ : ∃ u : Int, v = -u := ⟨-v, by omega⟩
    rw [Int.neg_tdiv, Int.neg_tmod, Int.tdiv_eq_ediv_of_nonneg (by omega), Int.tmod_eq_emod_of_nonneg (by omega), Int.neg_neg]
    exact ⟨rfl, rfl⟩
   ·rw [Int.tdiv_eq_ediv_of_nonneg (by omega), Int.tmod_eq_emod_of_nonneg (by omega)]
    exact ⟨rfl, rfl⟩
  have ht : w64 (Int.tdiv v 10) = Int.tdiv v 10 := w64_id (by omega)
  have htn : (Int.tdiv v 10).natAbs = v.natAbs / 10 := by omega
  have hl2 : L.length + 1 ≤ 19 := by
   by_cases h19 : L.length = 19
   ·rw [h19] at hp
    have : 1 ≤ v.natAbs := by omega
    have h2 : 1 * 10 ^ 19 ≤ v.natAbs * 10 ^ 19 := Nat.mul_le_mul_right _ this
    have h3 : n.natAbs ≤ 9223372036854775808 := by omega
    omega
   ·omega
  have key : ∀ d : Int, d = (v.natAbs % 10 : Nat) → ∃ r, F_spec_l01Dec_j1 v L k d = some r ∧ r = itoa n := by
   rintro d rfl
   unfold F_spec_l01Dec_j1
   have e1 : IntKind.wrap .u8 (w64 (48 + ((v.natAbs % 10 : Nat) : Int))) = ((48 + v.natAbs % 10 : Nat) : Int) := by
    rw [w64_id (by omega)]
    simp only [IntKind.wrap, IntKind.signed, IntKind.bits]
    have : ((48 + ((v.natAbs % 10 : Nat) : Int)) % 2 ^ 8) = 48 + ((v.natAbs % 10 : Nat) : Int) := Int.emod_eq_of_lt (by omega) (by omega)
    simp [this]
    try omega
   rw [e1, ht, need_true (p := room (L.length + [((48 + v.natAbs % 10 : Nat) : Int)].length) 1) (show room (L.length + 1) 1 from ⟨by omega, by omega⟩)]
   refine hk _ ⟨?_, ?_, ?_, ?_, ?_⟩ ?_
   ·dsimp only; omega
   ·dsimp only; intro hne; have := hsg hz; rw [← this]; omega
   ·dsimp only
    rw [htn, List.length_append, List.length_singleton, Nat.pow_succ]
    refine Nat.le_trans ?_ hp
    rw [Nat.mul_comm (10 ^ L.length) 10, ← Nat.mul_assoc]
    exact Nat.mul_le_mul_right _ (Nat.div_mul_le_self _ _)
   ·simp; omega
   ·dsimp only
    rw [hd, htn, dg0_step (by omega : v.natAbs ≠ 0)]
    simp only [bytesI, List.reverse_append, List.reverse_singleton, List.singleton_append, List.map_cons, Int.toNat_natCast, List.append_assoc]
   ·dsimp only; rw [htn]; omega
  have hm : (Int.tmod v 10).natAbs = v.natAbs % 10 := by omega
  by_cases hneg : Int.tmod v 10 < 0
  ·rw [decide_eq_true hneg, bif_t]
   exact key _ (by rw [w64_id (by omega)]; omega)
  ·rw [decide_eq_false hneg, bif_f]
   exact key _ (by omega)
end Go.Ab
set_option linter.unusedVariables false
set_option linter.unusedSimpArgs false
namespace Go.Ab
open Go.RowKit
open Go.Lib (itoa decDigits join)
theorem Decimal_eq {n : Int} (h : -9223372036854775808 ≤ n ∧ n ≤ 9223372036854775807) : F_impl_Decimal n = some (itoa n) := by
 unfold F_impl_Decimal F_formatInt
 rw [need_true ⟨by decide, h.1, h.2⟩]; rfl
theorem pit_loop {m : List TNote} (hm : m.length ≤ 100000) {body : (Int × List Int → Option (List Int)) → Int × List Int → Option (List Int)}
  (more : ∀ (i : Nat) x acc k, m[i]? = some x → acc.length = i → body k ((i : Int), acc) = k (((i + 1 : Nat) : Int), acc ++ [x.1]))
  (done : ∀ acc k, body k ((m.length : Int), acc) = some acc) : loop body (0, []) = some (m.map (·.1)) := by
 suffices H : ∃ r, loop body (0, []) = some r ∧ r = m.map (·.1) by
  obtain ⟨r, e, hr⟩ := H
  rw [e, hr]
 refine loop_ex (L := m) (fun i st => st.1 = (i : Int) ∧ st.2 = (m.take i).map (·.1)) (by omega) ⟨rfl, rfl⟩ ?_ ?_
 ·rintro i ⟨_, acc⟩ k x hx hi ⟨rfl, hacc⟩ hk
  dsimp only at hacc
  subst hacc
  rw [more i x _ k hx (by rw [List.length_map, take_len (get_lt hx)])]
  exact hk _ ⟨rfl, by dsimp only; rw [take_succ hx, List.map_append]; rfl⟩
 ·rintro ⟨_, acc⟩ k ⟨rfl, hacc⟩
  dsimp only at hacc
  rw [take_all (Nat.le_refl _)] at hacc
  rw [done acc k]
  exact ⟨_, rfl, hacc⟩
theorem sPitches_eq {m : List TNote} (hm : m.length ≤ 10000) : F_spec_l09Pitches m = some (m.map (·.1)) := by
 unfold F_spec_l09Pitches
 refine pit_loop (by omega) ?_ ?_
 ·intro i x acc k hx hl
  have hr : room (acc.length + [x.1].length) 8 := room8 (by have := get_lt hx; simp only [List.length_singleton]; omega)
  simp only [F_spec_l09Pitches_l0, int_lt (get_lt hx), bif_t, ix_get hx, Option.bind_some, need_true hr, w64_succ (show i < 9223372036854775807 by have := get_lt hx; omega)]
 ·intro acc k
  simp only [F_spec_l09Pitches_l0, int_lt_self, bif_f]
theorem iPitches_eq {m : List TNote} (hm : m.length ≤ 10000) : F_impl_pitchesOf m = some (m.map (·.1)) := by
 unfold F_impl_pitchesOf
 refine pit_loop (by omega) ?_ ?_
 ·intro i x acc k hx hl
  have hr : room (acc.length + [x.1].length) 8 := room8 (by have := get_lt hx; simp only [List.length_singleton]; omega)
  simp only [F_impl_pitchesOf_l0, int_lt (get_lt hx), bif_t, ix_get hx, Option.bind_some, need_true hr, w64_succ (show i < 9223372036854775807 by have := get_lt hx; omega)]
 ·intro acc k
  simp only [F_impl_pitchesOf_l0, int_lt_self, bif_f]
section
variable {a : TRaga}
noncomputable def wr1 (a : TRaga) (P : List Int) (i : Nat) : Int := match i with
 | 0 => match P[0]? with
  | some p => if toneIn a (tone p) = true then 0 else 1
  | none => 0
 | i + 1 => match P[i]?, P[i + 1]? with
  | some p, some q => rsn a p q
  | _, _ => 0
theorem wrong_ex (o : OkRaga a) (h2 : ∀ q ∈ a.2.2.2.2.2, ∃ x y, q = [x, y]) {P : List Int} (hP : P.length ≤ 1000) (hb : ∀ p ∈ P, -100 ≤ p ∧ p ≤ 100) :
  (F_spec_l05Wrong a P = some (-1, 0) ∧ F_impl_Raga_firstWrong a P = some (0, 0)) ∨ ∃ (i : Nat) (x : Int), i < P.length ∧ 0 < x ∧ x ≤ 5 ∧ F_spec_l05Wrong a P = some ((i : Int), x) ∧ F_impl_Raga_firstWrong a P = some ((i : Int), x) := by
 have hpos : ∀ (i : Nat), i < P.length → 0 ≤ wr1 a P i ∧ wr1 a P i ≤ 5 := by
  intro i hi
  cases i with
  | zero =>
   obtain ⟨p, hp⟩ := get_some hi
   simp only [wr1, hp]
   split <;> omega
  | succ i =>
   obtain ⟨p, hp⟩ := get_some (L := P) (n := i) (by omega)
   obtain ⟨q, hq⟩ := get_some hi
   simp only [wr1, hp, hq]
   exact ⟨(reason_eq o h2 (hb p (get_mem hp)) (hb q (get_mem hq))).2.2, rsn_le o h2 (hb p (get_mem hp)) (hb q (get_mem hq))⟩
 have hs : ∀ (i : Nat) k, i < P.length → F_spec_l05Wrong_l0 a P k (i : Int) = if 0 < wr1 a P i then some ((i : Int), wr1 a P i) else k (((i + 1 : Nat) : Int)) := by
  intro i k hi
  cases i with
  | zero =>
   obtain ⟨p, hp⟩ := get_some hi
   have i0 : ix P 0 = some p := ix_get hp
   have h0 : decide ((0 : Int) < ((0 : Nat) : Int)) = false := rfl
   simp only [F_spec_l05Wrong_l0, F_spec_l05Wrong_j1, int_lt hi, bif_t, h0, bif_f, i0, Option.bind_some, l03Tone_eq, l05Tone_eq o.2.1.1 o.2.2.1.1, wr1, hp]
   cases toneIn a (tone p)
   ·rfl
   ·simp; rfl
  | succ i =>
   obtain ⟨p, hp⟩ := get_some (L := P) (n := i) (by omega)
   obtain ⟨q, hq⟩ := get_some hi
   have hr := (reason_eq o h2 (hb p (get_mem hp)) (hb q (get_mem hq))).1
   simp only [F_spec_l05Wrong_l0, F_spec_l05Wrong_j1, int_lt hi, bif_t, int_pos', w64_pred (show i < 9223372036854775807 by omega), ix_get hp, ix_get hq, Option.bind_some, hr, wr1, hp, hq, bif_dec, w64_succ (show i + 1 < 9223372036854775807 by omega)]
 have hi' : ∀ (i : Nat) k, i < P.length → F_impl_Raga_firstWrong_l0 a P k (i : Int) = if 0 < wr1 a P i then some ((i : Int), wr1 a P i) else k (((i + 1 : Nat) : Int)) := by
  intro i k hi
  cases i with
  | zero =>
   obtain ⟨p, hp⟩ := get_some hi
   have i0 : ix P ((0 : Nat) : Int) = some p := ix_get hp
   have h0 : decide ((0 : Int) < ((0 : Nat) : Int)) = false := rfl
   have h1 : decide (((0 : Nat) : Int) = (0 : Int)) = true := rfl
   simp only [F_impl_Raga_firstWrong_l0, F_impl_Raga_firstWrong_j1, F_impl_Raga_firstWrong_j2, int_lt hi, bif_t, h0, h1, bif_f, i0, Option.bind_some, ToneOf_eq, hasTone_eq o.2.1.1 o.2.2.1.1, wr1, hp]
   cases toneIn a (tone p)
   ·rfl
   ·simp; rfl
  | succ i =>
   obtain ⟨p, hp⟩ := get_some (L := P) (n := i) (by omega)
   obtain ⟨q, hq⟩ := get_some hi
   have hr := (reason_eq o h2 (hb p (get_mem hp)) (hb q (get_mem hq))).2.1
   have hp0 := (hpos (i + 1) hi).1
   have h1 : decide (((i + 1 : Nat) : Int) = (0 : Int)) = false := decide_eq_false (by omega)
   simp only [wr1, hp, hq] at hp0
   simp only [F_impl_Raga_firstWrong_l0, F_impl_Raga_firstWrong_j1, F_impl_Raga_firstWrong_j2, int_lt hi, bif_t, bif_f, h1, int_pos', w64_pred (show i < 9223372036854775807 by omega), ix_get hp, ix_get hq, Option.bind_some, hr, wr1, hp, hq, bif_dec, w64_succ (show i + 1 < 9223372036854775807 by omega)]
   by_cases h0 : rsn a p q = 0
   ·rw [if_neg (fun h => h h0), if_neg (by omega)]
   ·rw [if_pos h0, if_pos (by omega)]
 by_cases hall : ∀ i, i < P.length → wr1 a P i = 0
 ·left
  constructor
  ·unfold F_spec_l05Wrong
   refine loop_at (L := P) (fun _ => ((-1 : Int), (0 : Int))) (by omega) ?_ ?_
   ·intro i k x hx hi hk
    rw [hs i k (get_lt hx), if_neg (by rw [hall i (get_lt hx)]; omega)]; exact hk
   ·intro k; simp only [F_spec_l05Wrong_l0, int_lt_self, bif_f]
  ·unfold F_impl_Raga_firstWrong
   refine loop_at (L := P) (fun _ => ((0 : Int), (0 : Int))) (by omega) ?_ ?_
   ·intro i k x hx hi hk
    rw [hi' i k (get_lt hx), if_neg (by rw [hall i (get_lt hx)]; omega)]; exact hk
   ·intro k; simp only [F_impl_Raga_firstWrong_l0, int_lt_self, bif_f]
 ·right
  -- the first wrong one
  have hex : ∃ i, i < P.length ∧ wr1 a P i ≠ 0 := by
   apply Classical.byContradiction
   intro hn
   refine hall fun i hi => ?_
   apply Classical.byContradiction
   intro hne
   exact hn ⟨i, hi, hne⟩
  obtain ⟨i, ⟨hi, hne⟩, hmin⟩ : ∃ i, (i < P.length ∧ wr1 a P i ≠ 0) ∧ ∀ j, j < i → wr1 a P j = 0 := by
   obtain ⟨n, hn⟩ := hex
   induction n using Nat.strongRecOn with
   | _ n ih =>
    by_cases hj : ∃ j, j < n ∧ wr1 a P j ≠ 0
    ·obtain ⟨j, hj1, hj2⟩ := hj
     exact ih j hj1 ⟨by omega, hj2⟩
    ·refine ⟨n, hn, fun j hjn => ?_⟩
     apply Classical.byContradiction
     intro h
     exact hj ⟨j, hjn, h⟩
  have hw := hpos i hi
  have fin : ∀ {body : (Int → Option TNote) → Int → Option TNote} (hbody : ∀ (j : Nat) k, j < P.length → body k (j : Int) = if 0 < wr1 a P j then some ((j : Int), wr1 a P j) else k (((j + 1 : Nat) : Int))), loop body 0 = some ((i : Int), wr1 a P i) := by
   intro body hbody
   have key : ∀ (d j n : Nat), j + d = i → d < n → iter body n (j : Int) = some ((i : Int), wr1 a P i) := by
    intro d
    induction d with
    | zero =>
     intro j n hj hn
     obtain ⟨n, rfl⟩ : ∃ m, n = m + 1 := ⟨n - 1, by omega⟩
     have : j = i := by omega
     subst this
     rw [iter, hbody j _ hi, if_pos (by omega)]
    | succ d ih =>
     intro j n hj hn
     obtain ⟨n, rfl⟩ : ∃ m, n = m + 1 := ⟨n - 1, by omega⟩
     rw [iter, hbody j _ (by omega), if_neg (by rw [hmin j (by omega)]; omega)]
     exact ih (j + 1) n (by omega) (by omega)
   have := key i 0 lim (by omega) (by unfold lim; omega)
   exact this
  exact ⟨i, wr1 a P i, hi, by omega, hw.2, fin hs, fin hi'⟩
end
noncomputable def mProb (a : TRaga) (L P : List Int) : List TProblem :=
 if (runG (arc1 L ++ arc2 a L L) 0 P 0).2 = (P.length : Int) ∧ (runG (arc1 L ++ arc2 a L L) 0 P 0).1 ∈ finL L then [] else [(2, [109, 101, 108, 111, 100, 121], itoa (runG (arc1 L ++ arc2 a L L) 0 P 0).2)]
theorem spec_gram {a : TRaga} {L P : List Int} (hl : L.length ≤ 31) (hal : (arc1 L ++ arc2 a L L).length ≤ 256) (hP : P.length ≤ 1000) :
  ((F_spec_l07Accepts ((L.length : Int) + 1, 0, finL L, arc1 L ++ arc2 a L L) P).bind fun u5 => (bif (!u5) then ((F_spec_l07Run ((L.length : Int) + 1, 0, finL L, arc1 L ++ arc2 a L L) P).bind fun u6 => ((F_spec_l01Dec u6.2).bind fun u7 => some ([(2, [109, 101, 108, 111, 100, 121], u7)] : List TProblem))) else some [])) = some (mProb a L P) := by
 have hf := finL_len L
 have hrun := Run_eq (g := ((L.length : Int) + 1, 0, finL L, arc1 L ++ arc2 a L L)) (by dsimp only; omega) (P := P) (by omega)
 have hle := runG_le (arc1 L ++ arc2 a L L) P 0 0
 unfold F_spec_l07Accepts mProb
 rw [hrun]
 dsimp only
 simp only [Option.bind_some, l00Has_eq (show (finL L).length ≤ 9223372036854775807 by omega), l01Dec_eq _ (show -9223372036854775808 ≤ (runG (arc1 L ++ arc2 a L L) 0 P 0).2 ∧ (runG (arc1 L ++ arc2 a L L) 0 P 0).2 ≤ 9223372036854775807 by omega)]
 by_cases h1 : (runG (arc1 L ++ arc2 a L L) 0 P 0).2 = (P.length : Int)
 ·rw [decide_eq_true h1, bif_t, Option.bind_some]
  by_cases h2 : (runG (arc1 L ++ arc2 a L L) 0 P 0).1 ∈ finL L
  ·rw [decide_eq_true h2, if_pos ⟨h1, h2⟩]; rfl
  ·rw [decide_eq_false h2, if_neg (fun h => h2 h.2)]; rfl
 ·rw [decide_eq_false h1, bif_f, Option.bind_some, if_neg (fun h => h1 h.1)]; rfl
theorem impl_gram {a : TRaga} {L P : List Int} (hpw : List.Pairwise (fun x y : Int => x < y) L) (hb : ∀ p ∈ L, -12 ≤ p ∧ p ≤ 23) (hl : L.length ≤ 31) (hal : (arc1 L ++ arc2 a L L).length ≤ 256) (hP : P.length ≤ 1000) :
  ((F_impl_WrongTurn ((L.length : Int) + 1, 0, finL L, arc1 L ++ arc2 a L L) P).bind fun u5 => (bif (decide (u5.2.2 = (0 : Int))) then ((F_impl_Decimal u5.1).bind fun u6 => some ([(2, [109, 101, 108, 111, 100, 121], u6)] : List TProblem)) else some [])) = some (mProb a L P) := by
 have hf := finL_len L
 have hin : ∀ x ∈ arc1 L ++ arc2 a L L, 0 ≤ x.2.2 := fun x hx => (arcs_in hx).2.2.1
 have hfol := follow_eq (g := ((L.length : Int) + 1, 0, finL L, arc1 L ++ arc2 a L L)) (by dsimp only; omega) (by dsimp only; exact hin) (P := P) (by omega)
 have hle := runG_le (arc1 L ++ arc2 a L L) P 0 0
 have j0 : ∃ list, F_impl_WrongTurn_j0 ((L.length : Int) + 1, 0, finL L, arc1 L ++ arc2 a L L) (runG (arc1 L ++ arc2 a L L) 0 P 0) = some ((runG (arc1 L ++ arc2 a L L) 0 P 0).2, list, 0) := by
  unfold F_impl_WrongTurn_j0
  rw [arcsOf_eq (g := ((L.length : Int) + 1, 0, finL L, arc1 L ++ arc2 a L L)) (by dsimp only; omega), Option.bind_some]
  dsimp only
  have hB : ((arc1 L ++ arc2 a L L).filter fun x => decide (x.1 = (runG (arc1 L ++ arc2 a L L) 0 P 0).1)).length ≤ 256 := Nat.le_trans (List.length_filter_le _ _) hal
  generalize (arc1 L ++ arc2 a L L).filter (fun x => decide (x.1 = (runG (arc1 L ++ arc2 a L L) 0 P 0).1)) = B at hB
  generalize runG (arc1 L ++ arc2 a L L) 0 P 0 = u
  have H : ∃ r, loop (F_impl_WrongTurn_l1 u B) (0, []) = some r ∧ ∃ list, r = (u.2, list, 0) := by
   refine loop_ex (L := B) (fun i st => st.1 = (i : Int) ∧ st.2.length = i) (by omega) ⟨rfl, rfl⟩ ?_ ?_
   ·rintro i ⟨_, acc⟩ k x hx hi ⟨rfl, hacc⟩ hk
    dsimp only at hacc
    have hr : room (acc.length + [x.2.1].length) 8 := room8 (by have := get_lt hx; simp only [List.length_singleton]; omega)
    simp only [F_impl_WrongTurn_l1, int_lt (get_lt hx), bif_t, ix_get hx, Option.bind_some, need_true hr, w64_succ hi]
    exact hk _ ⟨rfl, by dsimp only; rw [List.length_append, List.length_singleton]; omega⟩
   ·rintro ⟨_, acc⟩ k ⟨rfl, hacc⟩
    simp only [F_impl_WrongTurn_l1, int_lt_self, bif_f]
    exact ⟨_, rfl, acc, rfl⟩
  obtain ⟨r, e, list, rfl⟩ := H
  exact ⟨list, e⟩
 obtain ⟨list, hj⟩ := j0
 unfold F_impl_WrongTurn mProb F_impl_Grammar_isFinal
 rw [ValidGrammar_ok hpw hb hl hal, Option.bind_some, Bool.not_true, bif_f, hfol]
 dsimp only
 simp only [Option.bind_some, ContainsI_eq (show (finL L).length ≤ 9223372036854775807 by omega), hj]
 have hD := Decimal_eq (n := (runG (arc1 L ++ arc2 a L L) 0 P 0).2) (by omega)
 by_cases h1 : (runG (arc1 L ++ arc2 a L L) 0 P 0).2 = (P.length : Int)
 ·rw [decide_eq_true h1, bif_t]
  by_cases h2 : (runG (arc1 L ++ arc2 a L L) 0 P 0).1 ∈ finL L
  ·rw [decide_eq_true h2, if_pos ⟨h1, h2⟩]; rfl
  ·rw [decide_eq_false h2, bif_f, Option.bind_some, if_neg (fun h => h2 h.2)]
   dsimp only
   rw [hD]; rfl
 ·rw [decide_eq_false h1, bif_f, Option.bind_some, if_neg (fun h => h1 h.1)]
  dsimp only
  rw [hD]; rfl
theorem core_MelodyProblems (w : TWork) (o : OkWork w) (s : SmWork w) : ∃ r, F_spec_MelodyProblems w = some r ∧ F_impl_MelodyProblems w = some r ∧ (SmL CtProblem) r.1 := by
 obtain ⟨b, e1, e2, hg⟩ := work_ex w o
 obtain ⟨oR, _, _, oM, _⟩ := o
 unfold F_spec_MelodyProblems F_spec_l31Part F_impl_MelodyProblems F_impl_findProblems
 rw [e1, e2, Option.bind_some, Option.bind_some]
 cases b
 ·exact ⟨([], 1), rfl, rfl, by show ((0 : Nat) : Int) ≤ 1048576; omega, fun a ha => by cases ha⟩
 obtain ⟨hR, hlo, hhi, hmel, hfew⟩ := hg rfl
 have h2 := two_of hR
 have hml : w.2.2.2.2.2.2.2.2.1.length ≤ 48 := by
  unfold melOk at hmel
  rw [Bool.and_eq_true] at hmel
  have := of_decide_eq_true hmel.2
  omega
 have hmb : ∀ p ∈ w.2.2.2.2.2.2.2.2.1.map (·.1), -100 ≤ p ∧ p ≤ 100 := by
  intro p hp
  obtain ⟨x, hx, rfl⟩ := List.mem_map.1 hp
  unfold melOk at hmel
  rw [Bool.and_eq_true] at hmel
  have := (adj_all hmel.1).1 x hx
  unfold noteOk at this
  simp only [Bool.and_eq_true, decide_eq_true_eq] at this
  omega
 have hPl : (w.2.2.2.2.2.2.2.2.1.map (·.1)).length ≤ 1000 := by rw [List.length_map]; omega
 have hsp := spec_of oR h2 (lo := w.2.2.2.2.2.2.1) (hi := w.2.2.2.2.2.2.2.1) ⟨hlo.1, hhi.1, hhi.2⟩
 obtain ⟨g, c, hig, hc, hgv⟩ := impl_of oR h2 (lo := w.2.2.2.2.2.2.1) (hi := w.2.2.2.2.2.2.2.1) ⟨hlo.1, hhi.1, hhi.2⟩
 rw [hfew] at hc
 have hc0 : c = 0 := of_decide_eq_true hc
 have hgv := hgv hc0
 have hpp := pits_pw (w.1, w.2.1, w.2.2.1, w.2.2.2.1, w.2.2.2.2.1, w.2.2.2.2.2.1) w.2.2.2.2.2.2.1 (w.2.2.2.2.2.2.2.1 + 1 - w.2.2.2.2.2.2.1).toNat
 have hpb : ∀ p ∈ pits (w.1, w.2.1, w.2.2.1, w.2.2.2.1, w.2.2.2.2.1, w.2.2.2.2.2.1) w.2.2.2.2.2.2.1 (w.2.2.2.2.2.2.2.1 + 1 - w.2.2.2.2.2.2.1).toNat, -12 ≤ p ∧ p ≤ 23 := fun p h => by have := pits_in h; omega
 have hGr : F_impl_GrammarOf (w.1, w.2.1, w.2.2.1, w.2.2.2.1, w.2.2.2.2.1, w.2.2.2.2.2.1) w.2.2.2.2.2.2.1 w.2.2.2.2.2.2.2.1 = some (g, c) := by
  unfold F_impl_GrammarOf F_impl_pitchOk
  rw [ValidRaga_eq oR, hR]
  simp only [within_eq, Option.bind_some]
  rw [decide_eq_true hlo, decide_eq_true hhi]
  exact hig
 subst hgv
 generalize pits (w.1, w.2.1, w.2.2.1, w.2.2.2.1, w.2.2.2.2.1, w.2.2.2.2.2.1) w.2.2.2.2.2.2.1 (w.2.2.2.2.2.2.2.1 + 1 - w.2.2.2.2.2.2.1).toNat = L at *
 rw [Bool.and_eq_true, Bool.not_eq_true', Bool.not_eq_true', decide_eq_false_iff_not, decide_eq_false_iff_not] at hfew
 have hG1 := spec_gram (a := (w.1, w.2.1, w.2.2.1, w.2.2.2.1, w.2.2.2.2.1, w.2.2.2.2.2.1)) (L := L) (P := w.2.2.2.2.2.2.2.2.1.map (·.1)) (by omega) (by omega) hPl
 have hG2 := impl_gram (a := (w.1, w.2.1, w.2.2.1, w.2.2.2.1, w.2.2.2.2.1, w.2.2.2.2.2.1)) (L := L) (P := w.2.2.2.2.2.2.2.2.1.map (·.1)) hpp hpb (by omega) (by omega) hPl
 have key : ∃ Q : List TProblem, F_spec_l31Melody w = some Q ∧ F_impl_melodyProblems w = some Q ∧ Q.length ≤ 1 := by
  unfold F_spec_l31Melody F_impl_melodyProblems
  rw [sPitches_eq (by omega), iPitches_eq (by omega), Option.bind_some, Option.bind_some]
  rcases wrong_ex oR h2 hPl hmb with ⟨w1, w2⟩ | ⟨i, x, hi, hx0, hx5, w1, w2⟩
  ·rw [w1, w2, Option.bind_some, Option.bind_some, hsp, hGr, Option.bind_some, Option.bind_some]
   refine ⟨mProb (w.1, w.2.1, w.2.2.1, w.2.2.2.1, w.2.2.2.2.1, w.2.2.2.2.2.1) L (w.2.2.2.2.2.2.2.2.1.map (·.1)), ?_, ?_, ?_⟩
   ·exact hG1
   ·exact hG2
   ·unfold mProb; split <;> simp
  ·rw [w1, w2, Option.bind_some, Option.bind_some]
   dsimp only
   rw [decide_eq_true (show (0 : Int) ≤ (i : Int) by omega), bif_t, decide_eq_true (show x ≠ 0 by omega), bif_t, l01Dec_eq _ (by omega), l01Dec_eq _ (by omega), Decimal_eq (by omega), Decimal_eq (by omega)]
   exact ⟨_, rfl, rfl, by simp⟩
 obtain ⟨Q, k1, k2, k3⟩ := key
 have hl : loop (F_impl_findProblems_l0 w [()]) (0, []) = some (Q, 0) := by
  suffices H : ∃ r, loop (F_impl_findProblems_l0 w [()]) (0, []) = some r ∧ r = (Q, (0 : Int)) by
   obtain ⟨r, e, hr⟩ := H
   rw [e, hr]
  refine loop_ex (L := [()]) (fun i st => st.1 = (i : Int) ∧ st.2 = if i = 0 then [] else Q) (by simp) ⟨rfl, rfl⟩ ?_ ?_
  ·rintro i ⟨_, acc⟩ k x hx hi ⟨rfl, hacc⟩ hk
   dsimp only at hacc
   have hi0 : i = 0 := by have := get_lt hx; simp at this; exact this
   subst hi0
   rw [if_pos rfl] at hacc
   subst hacc
   simp only [F_impl_findProblems_l0, int_lt (get_lt hx), bif_t, ix_get hx, Option.bind_some, k2, w64_succ hi]
   rw [need_true (show room (([] : List TProblem).length + Q.length) 40 from ⟨by simp; omega, by simp; omega⟩)]
   exact hk _ ⟨rfl, by simp⟩
  ·rintro ⟨_, acc⟩ k ⟨rfl, hacc⟩
   dsimp only at hacc
   rw [if_neg (by simp)] at hacc
   subst hacc
   simp only [F_impl_findProblems_l0, int_lt_self, bif_f]
   exact ⟨_, rfl, rfl⟩
 rw [Bool.not_true, bif_f, bif_f, k1, hl]
 refine ⟨(Q, 0), rfl, rfl, ?_, fun _ _ => ⟨trivial, trivial, trivial⟩⟩
 show (Q.length : Int) ≤ 1048576
 omega
end Go.Ab
