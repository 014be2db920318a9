import Derived.Test.YtikfkniplbeeeaaGreatDoorPL
import Derived.Test.YtikfkniplbeeeaaGreatDoorPS
import Derived.Sort.Walk0
import Derived.Lib.ItoaNum
import Derived.Test.YtikfkniplbeeeaaGreatDoorGT
namespace Go.Ab
abbrev Str := List UInt8
end Go.Ab
set_option linter.unusedVariables false
set_option linter.unusedSimpArgs false
namespace Go.Ab
open Go.RowKit
def nb (b : UInt8) : Bool := decide ((97 ≤ b.toNat ∧ b.toNat ≤ 122) ∨ (48 ≤ b.toNat ∧ b.toNat ≤ 57))
def lowHead : List UInt8 → Bool
 | [] => false
 | b :: _ => decide (97 ≤ b.toNat ∧ b.toNat ≤ 122)
def nameOk (s : List UInt8) : Bool := decide (s.length ≤ 10) && (lowHead s && s.all nb)
theorem l01Small_eq (c : Int) : F_spec_l01Small c = some (decide (97 ≤ c ∧ c ≤ 122)) := by
 unfold F_spec_l01Small
 by_cases h : 97 ≤ c <;> simp [h]
theorem l01Digit_eq (c : Int) : F_spec_l01Digit c = some (decide (48 ≤ c ∧ c ≤ 57)) := by
 unfold F_spec_l01Digit
 by_cases h : 48 ≤ c <;> simp [h]
theorem l01Name_eq (s : List UInt8) (hs : s.length ≤ 9223372036854775807) : F_spec_l01Name s = some (nameOk s) := by
 unfold F_spec_l01Name
 cases s with
 | nil => rfl
 | cons b t =>
  have e : loop (F_spec_l01Name_l0 (b :: t)) 0 = some ((b :: t).all nb) := by
   refine loop_all nb hs ?_ ?_
   ·intro i k a ha hi
    simp only [F_spec_l01Name_l0, int_lt (get_lt ha), ix_get ha, Option.bind_some, bif_t, l01Small_eq, l01Digit_eq, w64_succ hi, ← decide_not, bif_dec, nb]
    repeat' split
    all_goals first | rfl | (exfalso; omega)
   ·intro k; simp [F_spec_l01Name_l0]
  rw [e]
  simp only [reduceCtorEq, decide_false, bif_f, ix_zero, Option.bind_some, l01Small_eq, ← decide_not, bif_dec, nameOk, lowHead]
  split
  ·rename_i h; rw [decide_eq_false (by omega)]; rfl
  ·rename_i h
   rw [decide_eq_true (by omega)]
   split
   ·rename_i h2; rw [decide_eq_false (by omega)]; rfl
   ·rename_i h2; rw [decide_eq_true (by omega)]; rfl
theorem onlyNameBytes_eq (s : List UInt8) (hs : s.length ≤ 9223372036854775807) : F_impl_onlyNameBytes s = some (s.all nb) := by
 unfold F_impl_onlyNameBytes
 refine loop_all nb hs ?_ ?_
 ·intro i k a ha hi
  simp only [F_impl_onlyNameBytes_l0, int_lt (get_lt ha), ix_get ha, Option.bind_some, bif_t, w64_succ hi, bif_dec, nb]
  repeat' split
  all_goals first | rfl | (exfalso; omega)
 ·intro k; simp [F_impl_onlyNameBytes_l0]
theorem IsName_eq (s : List UInt8) (hs : s.length ≤ 9223372036854775807) : F_impl_IsName s = some (nameOk s) := by
 unfold F_impl_IsName
 rw [onlyNameBytes_eq s hs]
 cases s with
 | nil => rfl
 | cons b t =>
  simp only [ix_zero, Option.bind_some, bif_dec, nameOk, lowHead]
  split
  ·rename_i h; simp at h; omega
  ·split
   ·rename_i h; rw [decide_eq_false (by omega)]; rfl
   ·rename_i h
    rw [decide_eq_true (by omega)]
    split
    ·rename_i h2; rw [decide_eq_false (by omega)]; rfl
    ·split
     ·rename_i h2; rw [decide_eq_false (by omega)]; rfl
     ·rw [decide_eq_true (by omega)]; rfl
end Go.Ab
set_option linter.unusedVariables false
set_option linter.unusedSimpArgs false
namespace Go.Ab
open Go.RowKit
section
variable {α : Type}
def adj (one : α → Bool) (bef : α → α → Bool) : Option α → List α → Bool
 | _, [] => true
 | none, x :: t => one x && adj one bef (some x) t
 | some q, x :: t => one x && (bef q x && adj one bef (some x) t)
def prevA (A : List α) : Nat → Option α
 | 0 => none
 | n + 1 => A[n]?
theorem loop_adj {A : List α} {one : α → Bool} {bef : α → α → Bool} {fin : Bool} {body : (Int → Option Bool) → Int → Option Bool} (hA : A.length ≤ 9223372036854775807)
  (first : ∀ k a, A[0]? = some a → body k 0 = bif one a then k 1 else some false)
  (more : ∀ (i : Nat) k q a, A[i]? = some q → A[i + 1]? = some a → i + 1 < 9223372036854775807 → body k ((i + 1 : Nat) : Int) = bif one a then (bif bef q a then k ((i + 2 : Nat) : Int) else some false) else some false)
  (done : ∀ k, body k (A.length : Int) = some fin) : loop body 0 = some (adj one bef none A && fin) := by
 have := loop_at (L := A) (body := body) (fun i => adj one bef (prevA A i) (A.drop i) && fin) hA ?_ ?_
 ·exact this
 ·intro i k a ha hi hk
  rw [drop_cons ha]
  cases i with
  | zero =>
   have h1 := first k a ha
   have hp : prevA A 1 = some a := ha
   rw [hp] at hk
   show body k 0 = _
   rw [h1]
   simp only [prevA, adj]
   cases one a
   ·rfl
   ·exact hk
  | succ n =>
   obtain ⟨q, hq⟩ := get_some (L := A) (n := n) (by have := get_lt ha; omega)
   have h1 := more n k q a hq ha hi
   have hp : prevA A (n + 1 + 1) = some a := ha
   rw [hp] at hk
   rw [h1]
   simp only [prevA, hq, adj]
   cases one a
   ·rfl
   ·cases bef q a
    ·rfl
    ·exact hk
 ·intro k
  rw [done, List.drop_length]
  cases prevA A A.length <;> simp [adj]
end
theorem adj_all {α : Type} {one : α → Bool} {bef : α → α → Bool} : ∀ {A : List α} {p : Option α}, adj one bef p A = true → (∀ x ∈ A, one x = true) ∧ (∀ (i : Nat) x y, A[i]? = some x → A[i + 1]? = some y → bef x y = true)
 | [], p, h => by simp
 | a :: A, p, h => by
  have h2 : one a = true ∧ adj one bef (some a) A = true := by
   cases p with
   | none => simpa [adj] using h
   | some q => simp [adj] at h; exact ⟨h.1, h.2.2⟩
  obtain ⟨k1, k2⟩ := adj_all (A := A) h2.2
  refine ⟨fun x hx => ?_, fun i x y hx hy => ?_⟩
  ·rcases List.mem_cons.1 hx with h | h
   ·rw [h]; exact h2.1
   ·exact k1 x h
  ·cases i with
   | zero =>
    simp at hx hy; subst hx
    cases A with
    | nil => simp at hy
    | cons b A =>
     simp at hy; subst hy
     have := h2.2
     simp [adj] at this; exact this.2.1
   | succ i => simp at hx hy; exact k2 i x y hx hy
end Go.Ab
set_option linter.unusedVariables false
set_option linter.unusedSimpArgs false
namespace Go.Ab
open Go.RowKit
theorem l00In_eq (a b c : Int) : F_spec_l00In a b c = some (decide (b ≤ a ∧ a ≤ c)) := by
 unfold F_spec_l00In
 by_cases h : b ≤ a <;> simp [h]
theorem within_eq (a b c : Int) : F_impl_within a b c = some (decide (b ≤ a ∧ a ≤ c)) := by
 unfold F_impl_within
 by_cases h : b ≤ a <;> simp [h]
end Go.Ab
set_option linter.unusedVariables false
set_option linter.unusedSimpArgs false
namespace Go.Ab
open Go.RowKit
theorem nif {R : Type} {b : Bool} {x y : R} : (bif !b then x else y) = bif b then y else x := by cases b <;> rfl
theorem bool_ext {a b : Bool} (h : a = true ↔ b = true) : a = b := by cases a <;> cases b <;> simp_all
theorem dec_le {a b : Int} : decide (b ≤ a) = !decide (a < b) := by
 by_cases h : a < b
 ·rw [decide_eq_true h, decide_eq_false (by omega)]; rfl
 ·rw [decide_eq_false h, decide_eq_true (by omega)]; rfl
theorem int_pos' (n : Nat) : decide ((0 : Int) < ((n + 1 : Nat) : Int)) = true := decide_eq_true (by omega)
theorem adj_of {α : Type} {one : α → Bool} {bef : α → α → Bool} : ∀ {A : List α} {p : Option α}, (∀ x ∈ A, one x = true) → (∀ (i : Nat) x y, A[i]? = some x → A[i + 1]? = some y → bef x y = true) → (∀ q x, p = some q → A[0]? = some x → bef q x = true) → adj one bef p A = true
 | [], p, _, _, _ => by cases p <;> rfl
 | a :: A, p, h1, h2, h3 => by
  have ih := adj_of (A := A) (p := some a) (fun x hx => h1 x (List.mem_cons_of_mem _ hx)) (fun i x y hx hy => h2 (i + 1) x y (by simpa using hx) (by simpa using hy)) (fun q x hq hx => by
   cases hq
   exact h2 0 a x rfl (by simpa using hx))
  cases p with
  | none => simp [adj, h1 a List.mem_cons_self, ih]
  | some q => simp [adj, h1 a List.mem_cons_self, h3 q a rfl rfl, ih]
theorem adj_iff {α : Type} {one : α → Bool} {bef : α → α → Bool} {A : List α} : adj one bef none A = true ↔ (∀ x ∈ A, one x = true) ∧ ∀ (i : Nat) x y, A[i]? = some x → A[i + 1]? = some y → bef x y = true :=
 ⟨fun h => adj_all h, fun h => adj_of h.1 h.2 fun q x hq => by cases hq⟩
def rises (L : List Int) (lo hi : Int) : Bool := adj (fun x => decide (lo ≤ x ∧ x ≤ hi)) (fun a b => decide (a < b)) none L
theorem l00Rises_eq {L : List Int} (hL : L.length ≤ 9223372036854775807) (lo hi : Int) : F_spec_l00Rises L lo hi = some (rises L lo hi) := by
 unfold F_spec_l00Rises rises
 have := loop_adj (A := L) (body := F_spec_l00Rises_l0 L lo hi) (one := fun x => decide (lo ≤ x ∧ x ≤ hi)) (bef := fun a b => decide (a < b)) (fin := true) hL ?_ ?_ ?_
 ·rw [this, Bool.and_true]
 ·intro k a ha
  have h0 : (0 : Int) = ((0 : Nat) : Int) := rfl
  rw [h0]
  simp only [F_spec_l00Rises_l0, int_lt (get_lt ha), bif_t, ix_get ha, Option.bind_some, l00In_eq, nif]
  rfl
 ·intro i k q a hq ha hi
  simp only [F_spec_l00Rises_l0, int_lt (get_lt ha), bif_t, ix_get ha, Option.bind_some, l00In_eq, nif, int_pos', w64_pred (show i < 9223372036854775807 by omega), ix_get hq, w64_succ hi, dec_le]
 ·intro k
  simp only [F_spec_l00Rises_l0, int_lt_self, bif_f]
theorem increasing_eq {L : List Int} (hL : L.length ≤ 9223372036854775807) (h1 : 1 ≤ L.length) : F_impl_increasing L = some (adj (fun _ => true) (fun a b => decide (a < b)) none L) := by
 unfold F_impl_increasing
 have key : ∀ (d i : Nat), i + 1 + d = L.length → ∀ N, d < N → iter (F_impl_increasing_l0 L) N ((i + 1 : Nat) : Int) = some (adj (fun _ => true) (fun a b => decide (a < b)) L[i]? (L.drop (i + 1))) := by
  intro d
  induction d with
  | zero =>
   intro i hi N hN
   obtain ⟨N, rfl⟩ : ∃ M, N = M + 1 := ⟨N - 1, by omega⟩
   have hn : decide (((i + 1 : Nat) : Int) < (L.length : Int)) = false := decide_eq_false (by omega)
   rw [iter, List.drop_eq_nil_of_le (by omega)]
   simp only [F_impl_increasing_l0, hn, bif_f]
   cases L[i]? <;> rfl
  | succ d ih =>
   intro i hi N hN
   obtain ⟨N, rfl⟩ : ∃ M, N = M + 1 := ⟨N - 1, by omega⟩
   obtain ⟨a, ha⟩ := get_some (L := L) (n := i + 1) (by omega)
   obtain ⟨q, hq⟩ := get_some (L := L) (n := i) (by omega)
   have h2 := ih (i + 1) (by omega) N (by omega)
   rw [iter, drop_cons ha, hq]
   simp only [F_impl_increasing_l0, int_lt (get_lt ha), bif_t, ix_get ha, Option.bind_some, w64_pred (show i < 9223372036854775807 by omega), ix_get hq, w64_succ (show i + 1 < 9223372036854775807 by omega), dec_le, nif]
   rw [h2, ha]
   simp only [adj, Bool.true_and]
   cases decide (q < a) <;> rfl
 have h0 := key (L.length - 1) 0 (by omega) lim (lt_lim (by omega))
 obtain ⟨a, ha⟩ := get_some (L := L) (n := 0) (by omega)
 rw [ha] at h0
 have e : adj (fun _ => true) (fun a b => decide (a < b)) (some a) (L.drop (0 + 1)) = adj (fun _ => true) (fun a b => decide (a < b)) none L := by
  have : L = a :: L.drop 1 := by have := drop_cons ha; simpa using this
  conv => rhs; rw [this]
  rfl
 rw [e] at h0
 exact h0
def scaleOk (L : List Int) : Bool := decide ((5 : Int) ≤ (L.length : Int)) && (rises L 0 11 && decide (L[0]? = some 0))
theorem l03Scale_eq {L : List Int} (hL : L.length ≤ 9223372036854775807) : F_spec_l03Scale L = some (scaleOk L) := by
 unfold F_spec_l03Scale scaleOk
 rw [l00Rises_eq hL]
 by_cases h5 : (5 : Int) ≤ L.length
 ·obtain ⟨a, ha⟩ := get_some (L := L) (n := 0) (by omega)
  have ha2 : ix L (0 : Int) = some a := ix_get ha
  rw [decide_eq_true h5, bif_t, Option.bind_some, ha2, ha]
  cases rises L 0 11 <;> simp
 ·rw [decide_eq_false h5]; rfl
theorem ValidScale_eq {L : List Int} (hL : L.length ≤ 9223372036854775807) : F_impl_ValidScale L = some (scaleOk L) := by
 unfold F_impl_ValidScale scaleOk
 by_cases h5 : (5 : Int) ≤ L.length
 ·obtain ⟨a, ha⟩ := get_some (L := L) (n := 0) (by omega)
  obtain ⟨z, hz⟩ := get_some (L := L) (n := L.length - 1) (by omega)
  have ha2 : ix L (0 : Int) = some a := ix_get ha
  have hz2 : ix L (w64 ((L.length : Int) - 1)) = some z := by
   rw [show (L.length : Int) - 1 = ((L.length - 1 : Nat) : Int) by omega, w64_id (by omega)]
   exact ix_get hz
  rw [increasing_eq hL (by omega), decide_eq_true h5, bif_t, ha2, Option.bind_some, ha]
  simp only [Bool.true_and, Option.some.injEq, Option.bind_some, hz2]
  by_cases h0 : a = 0
  ·rw [decide_eq_true h0, bif_t, Bool.and_true]
   have : (bif adj (fun _ => true) (fun a b : Int => decide (a < b)) none L then some (decide (z < 12)) else some false) = some (adj (fun _ => true) (fun a b : Int => decide (a < b)) none L && decide (z < 12)) := by
    cases adj (fun _ => true) (fun a b : Int => decide (a < b)) none L <;> rfl
   rw [this]
   congr 1
   refine bool_ext ?_
   unfold rises
   rw [Bool.and_eq_true, adj_iff, adj_iff, decide_eq_true_iff]
   constructor
   ·rintro ⟨⟨_, h1⟩, h2⟩
    have mono : ∀ (d i : Nat) x y, L[i]? = some x → L[i + d]? = some y → x + d ≤ y := by
     intro d
     induction d with
     | zero => intro i x y hx hy; rw [Nat.add_zero, hx] at hy; cases hy; simp
     | succ d ih =>
      intro i x y hx hy
      obtain ⟨m, hm⟩ := get_some (L := L) (n := i + d) (by have := get_lt hy; omega)
      have h3 := ih i x m hx hm
      have h4 := of_decide_eq_true (h1 (i + d) m y hm hy)
      omega
    refine ⟨fun x hx => ?_, h1⟩
    obtain ⟨i, hi⟩ := List.mem_iff_getElem?.1 hx
    have hlt := get_lt hi
    have q1 := mono i 0 a x ha (by rw [Nat.zero_add]; exact hi)
    have q2 := mono (L.length - 1 - i) i x z hi (by rw [show i + (L.length - 1 - i) = L.length - 1 by omega]; exact hz)
    exact decide_eq_true (by omega)
   ·rintro ⟨h1, h2⟩
    refine ⟨⟨fun _ _ => rfl, h2⟩, ?_⟩
    have := of_decide_eq_true (h1 z (get_mem hz))
    omega
  ·rw [decide_eq_false h0, bif_f, Bool.and_false]
 ·rw [decide_eq_false h5]; rfl
theorem l00Has_eq {L : List Int} (hL : L.length ≤ 9223372036854775807) (t : Int) : F_spec_l00Has L t = some (decide (t ∈ L)) := by
 unfold F_spec_l00Has
 obtain ⟨r, e, hr⟩ := loop_ex (body := F_spec_l00Has_l0 L t) (L := L) (s0 := 0) (Q := fun r => r = decide (t ∈ L)) (fun i s => s = (i : Int) ∧ ∀ x ∈ L.take i, x ≠ t) hL ⟨rfl, by simp⟩
  (by
   rintro i _ k a ha hi ⟨rfl, hI⟩ hk
   simp only [F_spec_l00Has_l0, int_lt (get_lt ha), bif_t, ix_get ha, Option.bind_some, w64_succ hi, bif_dec]
   split
   ·rename_i h
    exact ⟨_, rfl, (decide_eq_true (by rw [← h]; exact get_mem ha)).symm⟩
   ·rename_i h
    refine hk _ ⟨rfl, fun x hx => ?_⟩
    rw [take_succ ha] at hx
    rcases List.mem_append.1 hx with hx | hx
    ·exact hI x hx
    ·rw [List.mem_singleton.1 hx]; exact h)
  (by
   rintro _ k ⟨rfl, hI⟩
   rw [take_all (Nat.le_refl _)] at hI
   simp only [F_spec_l00Has_l0, int_lt_self, bif_f]
   exact ⟨_, rfl, (decide_eq_false fun h => hI t h rfl).symm⟩)
 rw [e, hr]
theorem ContainsI_eq {L : List Int} (hL : L.length ≤ 9223372036854775807) (t : Int) : F_slices_Contains_Sint64_int64 L t = some (decide (t ∈ L)) := by
 unfold F_slices_Contains_Sint64_int64 F_slices_Index_Sint64_int64
 obtain ⟨r, e, hr⟩ := loop_ex (body := F_slices_Index_Sint64_int64_l0 L t) (L := L) (s0 := 0) (Q := fun r => decide (0 ≤ r) = decide (t ∈ L)) (fun i s => s = (i : Int) ∧ ∀ x ∈ L.take i, x ≠ t) hL ⟨rfl, by simp⟩
  (by
   rintro i _ k a ha hi ⟨rfl, hI⟩ hk
   simp only [F_slices_Index_Sint64_int64_l0, int_lt (get_lt ha), bif_t, ix_get ha, Option.bind_some, w64_succ hi, bif_dec]
   split
   ·rename_i h
    exact ⟨_, rfl, by rw [decide_eq_true (by omega), decide_eq_true (by rw [h]; exact get_mem ha)]⟩
   ·rename_i h
    refine hk _ ⟨rfl, fun x hx => ?_⟩
    rw [take_succ ha] at hx
    rcases List.mem_append.1 hx with hx | hx
    ·exact hI x hx
    ·rw [List.mem_singleton.1 hx]; exact fun e => h e.symm)
  (by
   rintro _ k ⟨rfl, hI⟩
   rw [take_all (Nat.le_refl _)] at hI
   simp only [F_slices_Index_Sint64_int64_l0, int_lt_self, bif_f]
   exact ⟨_, rfl, by rw [decide_eq_false (by omega), decide_eq_false fun h => hI t h rfl]⟩)
 rw [e, Option.bind_some, hr]
def toneIn (a : TRaga) (t : Int) : Bool := decide (t ∈ a.2.1) || decide (t ∈ a.2.2.1)
theorem l05Tone_eq {a : TRaga} (h1 : a.2.1.length ≤ 9223372036854775807) (h2 : a.2.2.1.length ≤ 9223372036854775807) (t : Int) : F_spec_l05Tone a t = some (toneIn a t) := by
 unfold F_spec_l05Tone toneIn
 rw [l00Has_eq h1, l00Has_eq h2]
 simp only [Option.bind_some]
 cases decide (t ∈ a.2.1) <;> rfl
theorem hasTone_eq {a : TRaga} (h1 : a.2.1.length ≤ 9223372036854775807) (h2 : a.2.2.1.length ≤ 9223372036854775807) (t : Int) : F_impl_Raga_hasTone a t = some (toneIn a t) := by
 unfold F_impl_Raga_hasTone toneIn
 rw [ContainsI_eq h1, ContainsI_eq h2]
 simp only [Option.bind_some]
 cases decide (t ∈ a.2.1) <;> rfl
def noteOk (a : TNote) : Bool := decide (-12 ≤ a.1 ∧ a.1 ≤ 23) && decide (1 ≤ a.2 ∧ a.2 ≤ 64)
def melOk (L : List TNote) : Bool := adj noteOk (fun _ _ => true) none L && decide ((L.length : Int) ≤ 48)
theorem l09Ok_eq {L : List TNote} (hL : L.length ≤ 9223372036854775807) : F_spec_l09Ok L = some (melOk L) := by
 unfold F_spec_l09Ok melOk
 have st : ∀ (i : Nat) k a, L[i]? = some a → i < 9223372036854775807 → F_spec_l09Ok_l0 L k (i : Int) = bif noteOk a then k ((i + 1 : Nat) : Int) else some false := by
  intro i k a ha hi
  simp only [F_spec_l09Ok_l0, F_spec_l03Pitch, F_spec_l09Length, int_lt (get_lt ha), bif_t, ix_get ha, Option.bind_some, l00In_eq, nif, w64_succ hi, noteOk]
  cases decide (-12 ≤ a.1 ∧ a.1 ≤ 23) <;> rfl
 refine loop_adj hL ?_ ?_ ?_
 ·intro k a ha; exact st 0 k a ha (by omega)
 ·intro i k q a hq ha hi; rw [st (i + 1) k a ha hi]; rfl
 ·intro k; simp only [F_spec_l09Ok_l0, int_lt_self, bif_f]
theorem ValidMelody_eq {L : List TNote} (hL : L.length ≤ 9223372036854775807) : F_impl_ValidMelody L = some (melOk L) := by
 have st : ∀ (i : Nat) k a, L[i]? = some a → i < 9223372036854775807 → F_impl_ValidMelody_l0 L k (i : Int) = bif noteOk a then k ((i + 1 : Nat) : Int) else some false := by
  intro i k a ha hi
  simp only [F_impl_ValidMelody_l0, F_impl_pitchOk, F_impl_lengthOk, int_lt (get_lt ha), bif_t, ix_get ha, Option.bind_some, within_eq, nif, w64_succ hi, noteOk]
  cases decide (-12 ≤ a.1 ∧ a.1 ≤ 23) <;> rfl
 have e : loop (F_impl_ValidMelody_l0 L) 0 = some (adj noteOk (fun _ _ => true) none L && true) := by
  refine loop_adj hL ?_ ?_ ?_
  ·intro k a ha; exact st 0 k a ha (by omega)
  ·intro i k q a hq ha hi; rw [st (i + 1) k a ha hi]; rfl
  ·intro k; simp only [F_impl_ValidMelody_l0, int_lt_self, bif_f]
 unfold F_impl_ValidMelody melOk
 rw [e]
 by_cases h : (48 : Int) < L.length
 ·rw [decide_eq_true h, bif_t, decide_eq_false (by omega), Bool.and_false]
 ·rw [decide_eq_false h, bif_f, decide_eq_true (by omega)]
end Go.Ab
set_option linter.unusedVariables false
set_option linter.unusedSimpArgs false
namespace Go.Ab
open Go.RowKit
theorem less_eq (x y : Str) : Op.bytesLess x y = decide (x < y) := Go.Proofs.bytesLess_eq x y
def cmpI (a b : Int) : Int := if a < b then -1 else if b < a then 1 else 0
def cmpT (a b : Str) : Int := if a < b then -1 else if a = b then 0 else 1
theorem cmpI_eq (a b : Int) : F_cmp_Compare_int64 a b = some (cmpI a b) := by
 unfold F_cmp_Compare_int64 F_cmp_isNaN_int64 cmpI
 simp only [ne_eq, not_true_eq_false, decide_false, Option.bind_some, bif_f, bif_dec]
 split
 ·rfl
 ·split <;> rfl
theorem cmpT_eq (a b : Str) : F_cmp_Compare_string a b = some (cmpT a b) := by
 unfold F_cmp_Compare_string F_cmp_isNaN_string cmpT
 simp only [ne_eq, not_true_eq_false, decide_false, Option.bind_some, bif_f, less_eq]
 by_cases h : a < b
 ·simp [h]
 ·by_cases h2 : a = b
  ·subst h2; simp [h]
  ·simp [h, h2]
def or3 (x y z : Int) : Int := if x ≠ 0 then x else if y ≠ 0 then y else z
theorem Or3_eq (x y z : Int) : F_cmp_Or_int [x, y, z] = some (or3 x y z) := by
 unfold F_cmp_Or_int
 have := loop_sfx (body := F_cmp_Or_int_l0 [x, y, z]) (L := [x, y, z]) (fun t => (t.find? (fun z => decide (z ≠ 0))).getD 0) (by simp) ?_ ?_
 ·rw [this]
  unfold or3
  by_cases h : x = 0 <;> by_cases h2 : y = 0 <;> by_cases h3 : z = 0 <;> simp [List.find?, h, h2, h3]
 ·intro i k a t ha hi hk
  simp only [F_cmp_Or_int_l0, int_lt (get_lt ha), bif_t, ix_get ha, Option.bind_some, w64_succ hi, bif_dec, hk]
  by_cases h : a = 0 <;> simp [List.find?, h]
 ·intro k
  simp only [F_cmp_Or_int_l0, int_lt_self, bif_f]
  rfl
theorem loop_adjP {α : Type} {A : List α} {one : α → Bool} {bef : α → α → Bool} {fin : Bool} {body : (Int → Option Bool) → Int → Option Bool} (hA : A.length ≤ 9223372036854775807)
  (first : ∀ k a, A[0]? = some a → body k 0 = bif one a then k 1 else some false)
  (more : ∀ (i : Nat) k q a, A[i]? = some q → A[i + 1]? = some a → one q = true → i + 1 < 9223372036854775807 → body k ((i + 1 : Nat) : Int) = bif one a then (bif bef q a then k ((i + 2 : Nat) : Int) else some false) else some false)
  (done : ∀ k, body k (A.length : Int) = some fin) : loop body 0 = some (adj one bef none A && fin) := by
 have key : ∀ (d i : Nat), i + 1 + d = A.length → ∀ q, A[i]? = some q → one q = true → ∀ N, d < N → iter body N ((i + 1 : Nat) : Int) = some (adj one bef (some q) (A.drop (i + 1)) && fin) := by
  intro d
  induction d with
  | zero =>
   intro i hi q hq ho N hN
   obtain ⟨N, rfl⟩ : ∃ M, N = M + 1 := ⟨N - 1, by omega⟩
   have : i + 1 = A.length := by omega
   rw [iter, this, done, List.drop_length]
   rfl
  | succ d ih =>
   intro i hi q hq ho N hN
   obtain ⟨N, rfl⟩ : ∃ M, N = M + 1 := ⟨N - 1, by omega⟩
   obtain ⟨a, ha⟩ := get_some (L := A) (n := i + 1) (by omega)
   rw [iter, more i _ q a hq ha ho (by omega), drop_cons ha]
   simp only [adj]
   cases ho2 : one a
   ·rfl
   ·cases bef q a
    ·rfl
    ·have := ih (i + 1) (by omega) a ha ho2 N (by omega)
     simp only [bif_t, Bool.true_and]
     exact this
 cases A with
 | nil =>
  obtain ⟨m, hm⟩ : ∃ m, lim = m + 1 := ⟨lim - 1, by unfold lim; omega⟩
  unfold loop
  rw [hm, iter]
  have := done (iter body m)
  simpa [adj] using this
 | cons a A =>
  obtain ⟨m, hm⟩ : ∃ m, lim = m + 1 := ⟨lim - 1, by unfold lim; omega⟩
  have hml : A.length < m := by unfold lim at hm; simp only [List.length_cons] at hA; omega
  have hf := first (iter body m) a rfl
  unfold loop
  rw [hm, iter, hf]
  simp only [adj]
  cases ho : one a
  ·rfl
  ·have := key A.length 0 (by simp only [List.length_cons]; omega) a rfl ho m hml
   simp only [bif_t, Bool.true_and]
   simpa using this
def pr2 : List Int → Bool
 | [a, b] => decide (0 ≤ a ∧ a ≤ 11) && (decide (0 ≤ b ∧ b ≤ 11) && !decide (a = b))
 | _ => false
def pbef : List Int → List Int → Bool
 | [a, b], [c, d] => decide (a < c) || (decide (a = c) && decide (b < d))
 | _, _ => false
theorem two_cases {α : Type} (q : List α) : (∃ a b, q = [a, b]) ∨ decide ((q.length : Int) = 2) = false := by
 match q with
 | [] => exact .inr (by simp)
 | [a] => exact .inr (by simp)
 | [a, b] => exact .inl ⟨a, b, rfl⟩
 | a :: b :: c :: t => exact .inr (decide_eq_false (by simp only [List.length_cons]; omega))
theorem pr2_two {q : List Int} (h : pr2 q = true) : ∃ a b, q = [a, b] := by
 rcases two_cases q with h2 | h2
 ·exact h2
 ·match q, h with
  | [a, b], _ => exact ⟨a, b, rfl⟩
theorem ix0 {α : Type} (a b : α) : ix [a, b] 0 = some a := rfl
theorem ix1 {α : Type} (a b : α) : ix [a, b] 1 = some b := rfl
theorem pr2_no {q : List Int} (h : decide ((q.length : Int) = 2) = false) : pr2 q = false := by
 match q, h with
 | [], _ => rfl
 | [a], _ => rfl
 | [a, b], h => simp at h
 | a :: b :: c :: t, _ => rfl
theorem l05Pair_eq (q : List Int) : F_spec_l05Pair q = some (pr2 q) := by
 unfold F_spec_l05Pair
 rcases two_cases q with ⟨a, b, rfl⟩ | h
 ·rw [show decide ((([a, b] : List Int).length : Int) = 2) = true from rfl, bif_t]
  simp only [ix0, ix1, Option.bind_some, l00In_eq, pr2]
  cases decide (0 ≤ a ∧ a ≤ 11) <;> cases decide (0 ≤ b ∧ b ≤ 11) <;> simp
 ·rw [h, bif_f, pr2_no h]
theorem Compare2_eq (a b c d : Int) : ∃ r, F_slices_Compare_Sint64_int64 [a, b] [c, d] = some r ∧ decide (0 ≤ r) = !pbef [a, b] [c, d] := by
 unfold F_slices_Compare_Sint64_int64
 obtain ⟨m, hm⟩ : ∃ m, lim = m + 1 + 1 + 1 := ⟨lim - 3, by unfold lim; omega⟩
 unfold loop
 rw [hm]
 have w1 : w64 ((0 : Int) + 1) = 1 := by rw [w64_id (by omega)]; rfl
 have w2 : w64 ((1 : Int) + 1) = 2 := by rw [w64_id (by omega)]; rfl
 simp only [iter, F_slices_Compare_Sint64_int64_l0, ix0, ix1, Option.bind_some, cmpI_eq, w1, w2, List.length_cons, List.length_nil]
 simp only [show decide ((0 : Int) < ((0 + 1 + 1 : Nat) : Int)) = true from rfl, show decide ((1 : Int) < ((0 + 1 + 1 : Nat) : Int)) = true from rfl, show decide ((2 : Int) < ((0 + 1 + 1 : Nat) : Int)) = false from rfl, show decide (((0 + 1 + 1 : Nat) : Int) ≤ 0) = false from rfl, show decide (((0 + 1 + 1 : Nat) : Int) ≤ 1) = false from rfl, show decide (((0 + 1 + 1 : Nat) : Int) < ((0 + 1 + 1 : Nat) : Int)) = false from rfl, bif_t, bif_f]
 unfold pbef cmpI
 rcases Int.lt_trichotomy a c with h | h | h
 ·refine ⟨-1, ?_, ?_⟩ <;> simp [h]
 ·subst h
  rcases Int.lt_trichotomy b d with h | h | h
  ·refine ⟨-1, ?_, ?_⟩ <;> simp [h]
  ·subst h
   refine ⟨0, ?_, ?_⟩ <;> simp
  ·have : ¬ b < d := by omega
   refine ⟨1, ?_, ?_⟩ <;> simp [h, this]
 ·have h1 : ¬ a < c := by omega
  have h2 : ¬ a = c := by omega
  refine ⟨1, ?_, ?_⟩ <;> simp [h, h1, h2]
def pairsOk (F : List (List Int)) : Bool := adj pr2 pbef none F && decide ((F.length : Int) ≤ 8)
theorem l05Pairs_eq {F : List (List Int)} (hF : F.length ≤ 9223372036854775807) : F_spec_l05Pairs F = some (pairsOk F) := by
 unfold F_spec_l05Pairs pairsOk
 refine loop_adjP hF ?_ ?_ ?_
 ·intro k a ha
  have h0 : (0 : Int) = ((0 : Nat) : Int) := rfl
  rw [h0]
  simp only [F_spec_l05Pairs_l0, int_lt (get_lt ha), bif_t, ix_get ha, Option.bind_some, l05Pair_eq, nif]
  rfl
 ·intro i k q a hq ha ho hi
  obtain ⟨x, y, rfl⟩ := pr2_two ho
  simp only [F_spec_l05Pairs_l0, int_lt (get_lt ha), bif_t, ix_get ha, Option.bind_some, l05Pair_eq, nif, int_pos', w64_pred (show i < 9223372036854775807 by omega), ix_get hq, ix0, ix1, w64_succ hi]
  cases hp : pr2 a
  ·rfl
  ·obtain ⟨c, d, rfl⟩ := pr2_two hp
   simp only [bif_t, ix0, ix1, Option.bind_some, pbef]
   rcases Int.lt_trichotomy x c with h | h | h
   ·rw [decide_eq_false (show ¬ c < x by omega), decide_eq_false (show ¬ x = c by omega), decide_eq_true h]; rfl
   ·subst h
    rw [decide_eq_false (show ¬ x < x by omega), decide_eq_true (rfl : x = x)]
    by_cases h3 : y < d
    ·rw [decide_eq_false (show ¬ d ≤ y by omega), decide_eq_true h3]; rfl
    ·rw [decide_eq_true (show d ≤ y by omega), decide_eq_false h3]; rfl
   ·rw [decide_eq_true h, decide_eq_false (show ¬ x < c by omega), decide_eq_false (show ¬ x = c by omega)]; rfl
 ·intro k; simp only [F_spec_l05Pairs_l0, int_lt_self, bif_f]
def ragaOk (a : TRaga) : Bool := nameOk a.1 && (scaleOk a.2.1 && (scaleOk a.2.2.1 && (toneIn a a.2.2.2.1 && (toneIn a a.2.2.2.2.1 && (!decide (a.2.2.2.1 = a.2.2.2.2.1) && pairsOk a.2.2.2.2.2)))))
theorem l05Ok_eq {a : TRaga} (o : OkRaga a) : F_spec_l05Ok a = some (ragaOk a) := by
 obtain ⟨o0, o1, o2, _, _, o5⟩ := o
 unfold F_spec_l05Ok ragaOk
 rw [l01Name_eq _ o0, l03Scale_eq o1.1, l03Scale_eq o2.1, l05Tone_eq o1.1 o2.1, l05Tone_eq o1.1 o2.1, l05Pairs_eq o5.1]
 simp only [Option.bind_some, ne_eq, decide_not]
 cases nameOk a.1 <;> cases scaleOk a.2.1 <;> cases scaleOk a.2.2.1 <;> cases toneIn a a.2.2.2.1 <;> cases toneIn a a.2.2.2.2.1 <;> cases decide (a.2.2.2.1 = a.2.2.2.2.1) <;> rfl
theorem ValidRaga_eq {a : TRaga} (o : OkRaga a) : F_impl_ValidRaga a = some (ragaOk a) := by
 obtain ⟨o0, o1, o2, _, _, o5⟩ := o
 have e : loop (F_impl_ValidRaga_l0 a) 0 = some (adj pr2 pbef none a.2.2.2.2.2 && true) := by
  refine loop_adjP o5.1 ?_ ?_ ?_
  ·intro k q hq
   have h0 : (0 : Int) = ((0 : Nat) : Int) := rfl
   rw [h0]
   simp only [F_impl_ValidRaga_l0, int_lt (get_lt hq), bif_t, ix_get hq, Option.bind_some]
   rcases two_cases q with ⟨x, y, rfl⟩ | h
   ·rw [show decide ((([x, y] : List Int).length : Int) ≠ 2) = false from rfl, bif_f]
    simp only [ix0, ix1, Option.bind_some, F_impl_toneOk, within_eq, pr2]
    cases decide (0 ≤ x ∧ x ≤ 11) <;> cases decide (0 ≤ y ∧ y ≤ 11) <;> cases decide (x = y) <;> rfl
   ·rw [decide_eq_true (of_decide_eq_false h), bif_t, pr2_no h]; rfl
  ·intro i k p q hp hq ho hi
   obtain ⟨c, d, rfl⟩ := pr2_two ho
   simp only [F_impl_ValidRaga_l0, int_lt (get_lt hq), bif_t, ix_get hq, Option.bind_some, int_pos', w64_pred (show i < 9223372036854775807 by omega), ix_get hp, w64_succ hi]
   rcases two_cases q with ⟨x, y, rfl⟩ | h
   ·obtain ⟨r, e1, e2⟩ := Compare2_eq c d x y
    rw [show decide ((([x, y] : List Int).length : Int) ≠ 2) = false from rfl, bif_f]
    simp only [ix0, ix1, Option.bind_some, F_impl_toneOk, within_eq, pr2, e1, e2, nif]
    cases decide (0 ≤ x ∧ x ≤ 11) <;> cases decide (0 ≤ y ∧ y ≤ 11) <;> cases decide (x = y) <;> rfl
   ·rw [decide_eq_true (of_decide_eq_false h), bif_t, pr2_no h]; rfl
  ·intro k; simp only [F_impl_ValidRaga_l0, int_lt_self, bif_f]
 unfold F_impl_ValidRaga ragaOk pairsOk
 rw [IsName_eq _ o0, ValidScale_eq o1.1, ValidScale_eq o2.1, hasTone_eq o1.1 o2.1, hasTone_eq o1.1 o2.1, e]
 simp only [Option.bind_some, Bool.and_true]
 have h8 : decide ((8 : Int) < (a.2.2.2.2.2.length : Int)) = !decide ((a.2.2.2.2.2.length : Int) ≤ 8) := by
  by_cases h : (a.2.2.2.2.2.length : Int) ≤ 8
  ·rw [decide_eq_true h, decide_eq_false (by omega)]; rfl
  ·rw [decide_eq_false h, decide_eq_true (by omega)]; rfl
 rw [h8]
 cases nameOk a.1 <;> cases scaleOk a.2.1 <;> cases scaleOk a.2.2.1 <;> cases toneIn a a.2.2.2.1 <;> cases toneIn a a.2.2.2.2.1 <;> cases decide (a.2.2.2.1 = a.2.2.2.2.1) <;> cases decide ((a.2.2.2.2.2.length : Int) ≤ 8) <;> simp
def turnOk (t : TTurn) : Bool := nameOk t.1 && (decide (0 ≤ t.2.1 ∧ t.2.1 ≤ 10000) && decide (1 ≤ t.2.2 ∧ t.2.2 ≤ 10000))
def turnBef (a b : TTurn) : Bool := if a.2.1 ≠ b.2.1 then decide (a.2.1 < b.2.1) else if a.1 ≠ b.1 then decide (a.1 < b.1) else decide (a.2.2 < b.2.2)
theorem l23One_eq {t : TTurn} (o : OkTurn t) : F_spec_l23One t = some (turnOk t) := by
 unfold F_spec_l23One turnOk
 rw [l01Name_eq _ o.1, l00In_eq, l00In_eq]
 simp only [Option.bind_some]
 cases nameOk t.1 <;> cases decide (0 ≤ t.2.1 ∧ t.2.1 ≤ 10000) <;> rfl
theorem Tvalid_eq {t : TTurn} (o : OkTurn t) : F_impl_Turn_valid t = some (turnOk t) := by
 unfold F_impl_Turn_valid turnOk
 rw [IsName_eq _ o.1, within_eq, within_eq]
 simp only [Option.bind_some]
 cases nameOk t.1 <;> cases decide (0 ≤ t.2.1 ∧ t.2.1 ≤ 10000) <;> rfl
theorem l23Before_eq (a b : TTurn) : F_spec_l23Before a b = some (turnBef a b) := by
 unfold F_spec_l23Before turnBef
 simp only [bif_dec, less_eq]
 split
 ·rfl
 ·split <;> rfl
theorem compareT_bef (a b : TTurn) : ∃ c, F_impl_compareTurns a b = some c ∧ decide (0 ≤ c) = !turnBef a b := by
 refine ⟨or3 (cmpI a.2.1 b.2.1) (cmpT a.1 b.1) (cmpI a.2.2 b.2.2), ?_, ?_⟩
 ·unfold F_impl_compareTurns
  rw [cmpI_eq, cmpT_eq, cmpI_eq]
  simp only [Option.bind_some, Or3_eq]
 ·unfold or3 turnBef cmpI cmpT
  by_cases h1 : a.2.1 < b.2.1
  ·have : a.2.1 ≠ b.2.1 := by omega
   simp [h1, this]
  ·by_cases h2 : b.2.1 < a.2.1
   ·have : a.2.1 ≠ b.2.1 := by omega
    simp [h1, h2, this]
   ·have e : a.2.1 = b.2.1 := by omega
    simp only [e, Int.lt_irrefl, if_false, ne_eq, not_true_eq_false]
    by_cases h3 : a.1 = b.1
    ·have e3 : ¬ b.1 < b.1 := List.lt_irrefl _
     simp only [h3, e3, if_false, if_true, not_true_eq_false]
     by_cases h4 : a.2.2 < b.2.2
     ·simp [h4]
     ·by_cases h5 : b.2.2 < a.2.2 <;> simp [h4, h5]
    ·by_cases h4 : a.1 < b.1 <;> simp [h3, h4]
def turnsOk (L : List TTurn) : Bool := adj turnOk turnBef none L && decide ((L.length : Int) ≤ 24)
theorem l23Ok_eq {L : List TTurn} (oL : (OkL OkTurn) L) : F_spec_l23Ok L = some (turnsOk L) := by
 unfold F_spec_l23Ok turnsOk
 refine loop_adj oL.1 ?_ ?_ ?_
 ·intro k a ha
  have h0 : (0 : Int) = ((0 : Nat) : Int) := rfl
  rw [h0]
  simp only [F_spec_l23Ok_l0, int_lt (get_lt ha), bif_t, ix_get ha, Option.bind_some, l23One_eq (oL.2 a (get_mem ha)), nif]
  rfl
 ·intro i k q a hq ha hi
  simp only [F_spec_l23Ok_l0, int_lt (get_lt ha), bif_t, ix_get ha, Option.bind_some, l23One_eq (oL.2 a (get_mem ha)), nif, int_pos', w64_pred (show i < 9223372036854775807 by omega), w64_succ hi, ix_get hq, l23Before_eq]
 ·intro k; simp only [F_spec_l23Ok_l0, int_lt_self, bif_f]
theorem ValidTurns_eq {L : List TTurn} (oL : (OkL OkTurn) L) : F_impl_ValidTurns L = some (turnsOk L) := by
 have e : loop (F_impl_ValidTurns_l0 L) 0 = some (adj turnOk turnBef none L && true) := by
  refine loop_adj oL.1 ?_ ?_ ?_
  ·intro k a ha
   have h0 : (0 : Int) = ((0 : Nat) : Int) := rfl
   rw [h0]
   simp only [F_impl_ValidTurns_l0, int_lt (get_lt ha), bif_t, ix_get ha, Option.bind_some, Tvalid_eq (oL.2 a (get_mem ha)), nif]
   rfl
  ·intro i k q a hq ha hi
   obtain ⟨c, e, hc⟩ := compareT_bef q a
   simp only [F_impl_ValidTurns_l0, int_lt (get_lt ha), bif_t, ix_get ha, Option.bind_some, Tvalid_eq (oL.2 a (get_mem ha)), nif, int_pos', w64_pred (show i < 9223372036854775807 by omega), w64_succ hi, ix_get hq, e, hc]
  ·intro k; simp only [F_impl_ValidTurns_l0, int_lt_self, bif_f]
 unfold F_impl_ValidTurns turnsOk
 rw [e]
 by_cases h : (24 : Int) < L.length
 ·rw [decide_eq_true h, bif_t, decide_eq_false (by omega), Bool.and_false]
 ·rw [decide_eq_false h, bif_f, decide_eq_true (by omega)]
end Go.Ab
set_option linter.unusedVariables false
set_option linter.unusedSimpArgs false
namespace Go.Ab
open Go.RowKit
def sumW (L : List Int) : Int := L.foldl (fun s x => w64 (s + x)) 0
theorem sumW_step {L : List Int} {i : Nat} {a : Int} (h : L[i]? = some a) : sumW (L.take (i + 1)) = w64 (sumW (L.take i) + a) := by
 unfold sumW
 rw [take_succ h, List.foldl_append]; rfl
theorem l17Sum_eq {L : List Int} (hL : L.length ≤ 9223372036854775807) : F_spec_l17Sum L = some (sumW L) := by
 unfold F_spec_l17Sum
 obtain ⟨r, e, hr⟩ := loop_ex (body := F_spec_l17Sum_l0 L) (s0 := (0, 0)) (L := L) (Q := fun r => r = sumW L) (fun i s => s = (sumW (L.take i), (i : Int))) hL rfl
  (by
   rintro i _ K a ha hi rfl hK
   simp only [F_spec_l17Sum_l0, int_lt (get_lt ha), bif_t, ix_get ha, Option.bind_some, w64_succ hi]
   exact hK _ (by rw [sumW_step ha]))
  (by
   rintro _ K rfl
   refine ⟨sumW L, ?_, rfl⟩
   simp only [F_spec_l17Sum_l0, int_lt_self, bif_f]
   rw [take_all (Nat.le_refl _)])
 rw [e, hr]
theorem sumOf_eq {L : List Int} (hL : L.length ≤ 9223372036854775807) : F_impl_sumOf L = some (sumW L) := by
 unfold F_impl_sumOf
 obtain ⟨r, e, hr⟩ := loop_ex (body := F_impl_sumOf_l0 L) (s0 := (0, 0)) (L := L) (Q := fun r => r = sumW L) (fun i s => s = (sumW (L.take i), (i : Int))) hL rfl
  (by
   rintro i _ K a ha hi rfl hK
   simp only [F_impl_sumOf_l0, int_lt (get_lt ha), bif_t, ix_get ha, Option.bind_some, w64_succ hi]
   exact hK _ (by rw [sumW_step ha]))
  (by
   rintro _ K rfl
   refine ⟨sumW L, ?_, rfl⟩
   simp only [F_impl_sumOf_l0, int_lt_self, bif_f]
   rw [take_all (Nat.le_refl _)])
 rw [e, hr]
theorem allWithin_eq {L : List Int} (hL : L.length ≤ 9223372036854775807) (lo hi : Int) : F_impl_allWithin L lo hi = some (L.all fun x => decide (lo ≤ x ∧ x ≤ hi)) := by
 unfold F_impl_allWithin F_slices_ContainsFunc_Sint64_int64 F_slices_IndexFunc_Sint64_int64
 obtain ⟨r, e, hr⟩ := loop_ex (body := F_slices_IndexFunc_Sint64_int64_l0 L lo hi) (L := L) (s0 := 0) (Q := fun r => (!decide (0 ≤ r)) = L.all fun x => decide (lo ≤ x ∧ x ≤ hi)) (fun i s => s = (i : Int) ∧ ∀ x ∈ L.take i, decide (lo ≤ x ∧ x ≤ hi) = true) hL ⟨rfl, by simp⟩
  (by
   rintro i _ k a ha hi2 ⟨rfl, hI⟩ hk
   simp only [F_slices_IndexFunc_Sint64_int64_l0, F_impl_allWithin_1, int_lt (get_lt ha), bif_t, ix_get ha, Option.bind_some, within_eq, w64_succ hi2, nif]
   cases hp : decide (lo ≤ a ∧ a ≤ hi)
   ·rw [bif_f]
    refine ⟨_, rfl, ?_⟩
    rw [decide_eq_true (by omega)]
    have : (L.all fun x => decide (lo ≤ x ∧ x ≤ hi)) = false := List.all_eq_false.2 ⟨a, get_mem ha, by rw [hp]; simp⟩
    rw [this]; rfl
   ·rw [bif_t]
    refine hk _ ⟨rfl, fun x hx => ?_⟩
    rw [take_succ ha] at hx
    rcases List.mem_append.1 hx with hx | hx
    ·exact hI x hx
    ·rw [List.mem_singleton.1 hx]; exact hp)
  (by
   rintro _ k ⟨rfl, hI⟩
   rw [take_all (Nat.le_refl _)] at hI
   simp only [F_slices_IndexFunc_Sint64_int64_l0, int_lt_self, bif_f]
   refine ⟨_, rfl, ?_⟩
   rw [List.all_eq_true.2 hI]; rfl)
 rw [e]
 simp only [Option.bind_some, hr]
def gd (t : TTala) (i : Nat) : Bool := match t.2.1[i]?, t.2.2[i]? with
 | some g, some c => decide (1 ≤ g ∧ g ≤ 16) && (if i = 0 then decide (c = 1) else decide (2 ≤ c ∧ c ≤ 3))
 | _, _ => false
def talaOk (t : TTala) : Bool := nameOk t.1 && (decide (1 ≤ (t.2.1.length : Int) ∧ (t.2.1.length : Int) ≤ 8) && (decide (t.2.2.length = t.2.1.length) && ((List.range t.2.1.length).all (gd t) && decide (sumW t.2.1 ≤ 32))))
theorem range_all {p : Nat → Bool} {n : Nat} : (List.range n).all p = true ↔ ∀ i, i < n → p i = true := by
 rw [List.all_eq_true]
 exact ⟨fun h i hi => h i (List.mem_range.2 hi), fun h i hi => h i (List.mem_range.1 hi)⟩
theorem l17Ok_eq {t : TTala} (o : OkTala t) : F_spec_l17Ok t = some (talaOk t) := by
 obtain ⟨o0, o1, o2⟩ := o
 unfold F_spec_l17Ok talaOk
 rw [l01Name_eq _ o0, l00In_eq]
 simp only [Option.bind_some, nif]
 cases nameOk t.1
 ·rfl
 cases decide (1 ≤ (t.2.1.length : Int) ∧ (t.2.1.length : Int) ≤ 8)
 ·rfl
 by_cases hlen : t.2.2.length = t.2.1.length
 ·rw [decide_eq_false (show ¬ (t.2.2.length : Int) ≠ (t.2.1.length : Int) by omega), decide_eq_true hlen]
  simp only [bif_t, bif_f, Bool.true_and]
  obtain ⟨r, e, hr⟩ := loop_ex (body := F_spec_l17Ok_l0 t) (L := t.2.1) (s0 := 0) (Q := fun r => r = ((List.range t.2.1.length).all (gd t) && decide (sumW t.2.1 ≤ 32))) (fun i s => s = (i : Int) ∧ ∀ j, j < i → gd t j = true) o1.1 ⟨rfl, fun _ h => by omega⟩
   (by
    rintro i _ K g hg hi ⟨rfl, hI⟩ hK
    have hlt := get_lt hg
    obtain ⟨c, hc⟩ := get_some (L := t.2.2) (n := i) (by omega)
    have hgd : gd t i = (decide (1 ≤ g ∧ g ≤ 16) && (if i = 0 then decide (c = 1) else decide (2 ≤ c ∧ c ≤ 3))) := by unfold gd; rw [hg, hc]
    have bad : gd t i = false → ∃ r, (some false : Option Bool) = some r ∧ r = ((List.range t.2.1.length).all (gd t) && decide (sumW t.2.1 ≤ 32)) := by
     intro h
     have : (List.range t.2.1.length).all (gd t) = false := List.all_eq_false.2 ⟨i, List.mem_range.2 hlt, by rw [h]; simp⟩
     exact ⟨_, rfl, by rw [this]; rfl⟩
    have good : gd t i = true → ∃ r, K ((i + 1 : Nat) : Int) = some r ∧ r = ((List.range t.2.1.length).all (gd t) && decide (sumW t.2.1 ≤ 32)) := by
     intro h
     refine hK _ ⟨rfl, fun j hj => ?_⟩
     by_cases e : j = i
     ·rw [e]; exact h
     ·exact hI j (by omega)
    simp only [F_spec_l17Ok_l0, int_lt hlt, bif_t, ix_get hg, ix_get hc, Option.bind_some, l00In_eq, nif, w64_succ hi]
    cases h1 : decide (1 ≤ g ∧ g ≤ 16)
    ·exact bad (by rw [hgd, h1]; rfl)
    ·rw [bif_t]
     cases i with
     | zero =>
      rw [show decide (((0 : Nat) : Int) = 0) = true from rfl, show decide ((0 : Int) < ((0 : Nat) : Int)) = false from rfl, bif_t]
      by_cases h2 : c = 1
      ·rw [decide_eq_false (show ¬ c ≠ 1 by simpa using h2), bif_f, bif_f]
       exact good (by rw [hgd, h1, if_pos rfl, decide_eq_true h2]; rfl)
      ·rw [decide_eq_true (show c ≠ 1 from h2), bif_t]
       exact bad (by rw [hgd, h1, if_pos rfl, decide_eq_false h2]; rfl)
     | succ n =>
      rw [show decide (((n + 1 : Nat) : Int) = 0) = false from decide_eq_false (by omega), int_pos', bif_f, bif_t]
      cases h2 : decide (2 ≤ c ∧ c ≤ 3)
      ·exact bad (by rw [hgd, h1, if_neg (by omega), h2]; rfl)
      ·exact good (by rw [hgd, h1, if_neg (by omega), h2]; rfl))
   (by
    rintro _ K ⟨rfl, hI⟩
    simp only [F_spec_l17Ok_l0, int_lt_self, bif_f, l17Sum_eq o1.1, Option.bind_some]
    refine ⟨_, rfl, ?_⟩
    rw [range_all.2 hI]; rfl)
  rw [e, hr]
 ·rw [decide_eq_true (show (t.2.2.length : Int) ≠ (t.2.1.length : Int) by omega), decide_eq_false hlen]; rfl
theorem ValidTala_eq {t : TTala} (o : OkTala t) : F_impl_ValidTala t = some (talaOk t) := by
 obtain ⟨o0, o1, o2⟩ := o
 unfold F_impl_ValidTala talaOk F_impl_Tala_beats
 rw [IsName_eq _ o0, allWithin_eq o1.1, sumOf_eq o1.1]
 simp only [Option.bind_some, nif]
 cases nameOk t.1
 ·rfl
 by_cases hn : 1 ≤ (t.2.1.length : Int) ∧ (t.2.1.length : Int) ≤ 8
 ·rw [decide_eq_false (show ¬ (t.2.1.length : Int) < 1 by omega), decide_eq_false (show ¬ (8 : Int) < (t.2.1.length : Int) by omega), decide_eq_true hn]
  simp only [bif_t, bif_f, Bool.true_and]
  by_cases hlen : t.2.2.length = t.2.1.length
  ·rw [decide_eq_true (show (t.2.2.length : Int) = (t.2.1.length : Int) by omega), decide_eq_true hlen]
   obtain ⟨c, hc⟩ := get_some (L := t.2.2) (n := 0) (by omega)
   have hc2 : ix t.2.2 (0 : Int) = some c := ix_get hc
   have hsub : sub t.2.2 1 (t.2.2.length : Int) = t.2.2.drop 1 := by
    unfold sub
    rw [Int.toNat_natCast, List.take_length]; rfl
   rw [hc2, need_true (by omega), hsub, allWithin_eq (by rw [List.length_drop]; omega)]
   simp only [Option.bind_some, bif_t, Bool.true_and]
   have key : (List.range t.2.1.length).all (gd t) = ((t.2.1.all fun x => decide (1 ≤ x ∧ x ≤ 16)) && (decide (c = 1) && (t.2.2.drop 1).all fun x => decide (2 ≤ x ∧ x ≤ 3))) := by
    refine bool_ext ?_
    rw [range_all, Bool.and_eq_true, Bool.and_eq_true, List.all_eq_true, List.all_eq_true, decide_eq_true_iff]
    constructor
    ·intro h
     refine ⟨fun x hx => ?_, ?_, fun x hx => ?_⟩
     ·obtain ⟨i, hi⟩ := List.mem_iff_getElem?.1 hx
      obtain ⟨d, hd⟩ := get_some (L := t.2.2) (n := i) (by have := get_lt hi; omega)
      have := h i (get_lt hi)
      unfold gd at this
      rw [hi, hd, Bool.and_eq_true] at this
      exact this.1
     ·obtain ⟨g, hg⟩ := get_some (L := t.2.1) (n := 0) (by omega)
      have := h 0 (by omega)
      unfold gd at this
      rw [hg, hc, Bool.and_eq_true, if_pos rfl] at this
      exact of_decide_eq_true this.2
     ·obtain ⟨i, hi⟩ := List.mem_iff_getElem?.1 hx
      rw [List.getElem?_drop] at hi
      have hlt := get_lt hi
      obtain ⟨g, hg⟩ := get_some (L := t.2.1) (n := 1 + i) (by omega)
      have := h (1 + i) (by omega)
      unfold gd at this
      rw [hg, hi, Bool.and_eq_true, if_neg (by omega)] at this
      exact this.2
    ·rintro ⟨h1, h2, h3⟩ i hi
     obtain ⟨g, hg⟩ := get_some (L := t.2.1) (n := i) hi
     obtain ⟨d, hd⟩ := get_some (L := t.2.2) (n := i) (by omega)
     unfold gd
     rw [hg, hd, Bool.and_eq_true]
     refine ⟨h1 g (get_mem hg), ?_⟩
     split
     ·rename_i h0
      subst h0
      rw [hc] at hd; cases hd
      exact decide_eq_true h2
     ·rename_i h0
      refine h3 d (List.mem_iff_getElem?.2 ⟨i - 1, ?_⟩)
      rw [List.getElem?_drop, show 1 + (i - 1) = i by omega]; exact hd
   rw [key]
   have h32 : decide ((32 : Int) < sumW t.2.1) = !decide (sumW t.2.1 ≤ 32) := by
    by_cases h : sumW t.2.1 ≤ 32
    ·rw [decide_eq_true h, decide_eq_false (by omega)]; rfl
    ·rw [decide_eq_false h, decide_eq_true (by omega)]; rfl
   rw [h32]
   cases (t.2.1.all fun x => decide (1 ≤ x ∧ x ≤ 16)) <;> cases decide (sumW t.2.1 ≤ 32) <;> cases decide (c = 1) <;> simp
  ·rw [decide_eq_false (show ¬ (t.2.2.length : Int) = (t.2.1.length : Int) by omega), decide_eq_false hlen]
   cases (t.2.1.all fun x => decide (1 ≤ x ∧ x ≤ 16)) <;> cases decide ((32 : Int) < sumW t.2.1) <;> rfl
 ·rw [decide_eq_false hn]
  by_cases h1 : (t.2.1.length : Int) < 1
  ·rw [decide_eq_true h1]; rfl
  ·rw [decide_eq_false h1, decide_eq_true (show (8 : Int) < (t.2.1.length : Int) by omega)]; rfl
def cadOk (t : TTala) (sp st ph gap : Int) : Bool := talaOk t && (decide (1 ≤ sp ∧ sp ≤ 8) && (decide (0 ≤ st ∧ st ≤ w64 (w64 (sumW t.2.1 * sp) - 1)) && (decide (1 ≤ ph ∧ ph ≤ 64) && decide (0 ≤ gap ∧ gap ≤ 32))))
theorem cad_impl {t : TTala} (o : OkTala t) (sp st ph gap : Int) : ∃ c, F_impl_cadenceCode t sp st ph gap 0 = some c ∧ decide (c = 0) = cadOk t sp st ph gap := by
 unfold F_impl_cadenceCode cadOk F_impl_Tala_beats
 rw [ValidTala_eq o, sumOf_eq o.2.1.1]
 simp only [Option.bind_some, within_eq, nif]
 cases talaOk t
 ·exact ⟨_, rfl, rfl⟩
 cases decide (1 ≤ sp ∧ sp ≤ 8)
 ·exact ⟨_, rfl, rfl⟩
 cases decide (0 ≤ st ∧ st ≤ w64 (w64 (sumW t.2.1 * sp) - 1))
 ·exact ⟨_, rfl, rfl⟩
 cases decide (1 ≤ ph ∧ ph ≤ 64)
 ·exact ⟨_, rfl, rfl⟩
 cases decide (0 ≤ gap ∧ gap ≤ 32)
 ·exact ⟨_, rfl, rfl⟩
 ·exact ⟨_, rfl, rfl⟩
theorem cad_spec {t : TTala} (o : OkTala t) (sp st ph gap : Int) : ∃ c, F_spec_l19Start t sp st = some c ∧ F_spec_l19Phrase ph = some (decide (1 ≤ ph ∧ ph ≤ 64)) ∧ F_spec_l19Gap gap = some (decide (0 ≤ gap ∧ gap ≤ 32)) ∧ (decide (c = 0) && (decide (1 ≤ ph ∧ ph ≤ 64) && decide (0 ≤ gap ∧ gap ≤ 32))) = cadOk t sp st ph gap := by
 have e1 : F_spec_l19Phrase ph = some (decide (1 ≤ ph ∧ ph ≤ 64)) := by unfold F_spec_l19Phrase; rw [l00In_eq]; rfl
 have e2 : F_spec_l19Gap gap = some (decide (0 ≤ gap ∧ gap ≤ 32)) := by unfold F_spec_l19Gap; rw [l00In_eq]; rfl
 unfold F_spec_l19Start F_spec_l19Ask F_spec_l19Units F_spec_l17Beats cadOk
 rw [l17Ok_eq o, l17Sum_eq o.2.1.1]
 simp only [Option.bind_some, l00In_eq, nif]
 cases talaOk t
 ·exact ⟨_, rfl, e1, e2, rfl⟩
 cases decide (1 ≤ sp ∧ sp ≤ 8)
 ·exact ⟨_, rfl, e1, e2, rfl⟩
 cases decide (0 ≤ st ∧ st ≤ w64 (w64 (sumW t.2.1 * sp) - 1))
 ·exact ⟨_, rfl, e1, e2, rfl⟩
 ·exact ⟨_, rfl, e1, e2, by simp⟩
end Go.Ab
set_option linter.unusedVariables false
set_option linter.unusedSimpArgs false
namespace Go.Ab
open Go.RowKit
def tone (p : Int) : Int := Int.tmod (w64 ((Int.tmod p 12) + 12)) 12
theorem l03Tone_eq (p : Int) : F_spec_l03Tone p = some (tone p) := rfl
theorem ToneOf_eq (p : Int) : F_impl_ToneOf p = some (tone p) := rfl
def forb (a : TRaga) (s t : Int) : Bool := a.2.2.2.2.2.any fun q => decide (q = [s, t])
theorem two_eq (x y s t : Int) : decide (([x, y] : List Int) = [s, t]) = (decide (x = s) && decide (y = t)) := by
 by_cases h1 : x = s <;> by_cases h2 : y = t <;> simp [h1, h2]
theorem forb_spec {a : TRaga} (hF : a.2.2.2.2.2.length ≤ 9223372036854775807) (h2 : ∀ q ∈ a.2.2.2.2.2, ∃ x y, q = [x, y]) (s t : Int) : F_spec_l05Reason_j1 a s t = some (if forb a s t = true then 5 else 0) := by
 unfold F_spec_l05Reason_j1
 obtain ⟨r, e, hr⟩ := loop_ex (body := F_spec_l05Reason_l2 a s t) (s0 := 0) (L := a.2.2.2.2.2) (Q := fun r => r = if forb a s t = true then 5 else 0) (fun i s' => s' = (i : Int) ∧ ∀ q ∈ a.2.2.2.2.2.take i, decide (q = [s, t]) = false) hF ⟨rfl, by simp⟩
  (by
   rintro i _ k q hq hi ⟨rfl, hI⟩ hk
   obtain ⟨x, y, rfl⟩ := h2 q (get_mem hq)
   have bad : decide (([x, y] : List Int) = [s, t]) = true → forb a s t = true := fun h => List.any_eq_true.2 ⟨_, get_mem hq, h⟩
   have next : decide (([x, y] : List Int) = [s, t]) = false → ∃ r, k ((i + 1 : Nat) : Int) = some r ∧ r = if forb a s t = true then 5 else 0 := by
    intro h
    refine hk _ ⟨rfl, fun z hz => ?_⟩
    rw [take_succ hq] at hz
    rcases List.mem_append.1 hz with hz | hz
    ·exact hI z hz
    ·rw [List.mem_singleton.1 hz]; exact h
   simp only [F_spec_l05Reason_l2, int_lt (get_lt hq), bif_t, ix_get hq, Option.bind_some, ix0, ix1, w64_succ hi]
   rw [two_eq] at bad next
   cases h1 : decide (x = s)
   ·rw [bif_f]; exact next (by rw [h1]; rfl)
   ·rw [bif_t]
    cases h3 : decide (y = t)
    ·rw [bif_f]; exact next (by rw [h1, h3]; rfl)
    ·rw [bif_t]; exact ⟨_, rfl, by rw [if_pos (bad (by rw [h1, h3]; rfl))]⟩)
  (by
   rintro _ k ⟨rfl, hI⟩
   rw [take_all (Nat.le_refl _)] at hI
   simp only [F_spec_l05Reason_l2, int_lt_self, bif_f]
   have : forb a s t = false := List.any_eq_false.2 fun q hq => by rw [hI q hq]; simp
   exact ⟨_, rfl, by rw [this]; rfl⟩)
 rw [e, hr]
theorem forb_impl {a : TRaga} (hF : a.2.2.2.2.2.length ≤ 9223372036854775807) (h2 : ∀ q ∈ a.2.2.2.2.2, ∃ x y, q = [x, y]) (s t : Int) : F_slices_ContainsFunc_SSint64_Sint64 a.2.2.2.2.2 s t = some (forb a s t) := by
 unfold F_slices_ContainsFunc_SSint64_Sint64 F_slices_IndexFunc_SSint64_Sint64
 obtain ⟨r, e, hr⟩ := loop_ex (body := F_slices_IndexFunc_SSint64_Sint64_l0 a.2.2.2.2.2 s t) (s0 := 0) (L := a.2.2.2.2.2) (Q := fun r => decide (0 ≤ r) = forb a s t) (fun i s' => s' = (i : Int) ∧ ∀ q ∈ a.2.2.2.2.2.take i, decide (q = [s, t]) = false) hF ⟨rfl, by simp⟩
  (by
   rintro i _ k q hq hi ⟨rfl, hI⟩ hk
   obtain ⟨x, y, rfl⟩ := h2 q (get_mem hq)
   have e1 : F_impl_Raga_reason_1 [x, y] s t = some (decide (([x, y] : List Int) = [s, t])) := by
    unfold F_impl_Raga_reason_1
    rw [two_eq]
    simp only [ix0, ix1, Option.bind_some]
    cases decide (x = s) <;> rfl
   simp only [F_slices_IndexFunc_SSint64_Sint64_l0, int_lt (get_lt hq), bif_t, ix_get hq, Option.bind_some, e1, w64_succ hi]
   cases h : decide (([x, y] : List Int) = [s, t])
   ·rw [bif_f]
    refine hk _ ⟨rfl, fun z hz => ?_⟩
    rw [take_succ hq] at hz
    rcases List.mem_append.1 hz with hz | hz
    ·exact hI z hz
    ·rw [List.mem_singleton.1 hz]; exact h
   ·rw [bif_t]
    have : forb a s t = true := List.any_eq_true.2 ⟨_, get_mem hq, h⟩
    exact ⟨_, rfl, by rw [this, decide_eq_true (by omega)]⟩)
  (by
   rintro _ k ⟨rfl, hI⟩
   rw [take_all (Nat.le_refl _)] at hI
   simp only [F_slices_IndexFunc_SSint64_Sint64_l0, int_lt_self, bif_f]
   have : forb a s t = false := List.any_eq_false.2 fun q hq => by rw [hI q hq]; simp
   exact ⟨_, rfl, by rw [this]; rfl⟩)
 rw [e, Option.bind_some, hr]
theorem reason_ex {a : TRaga} (o : OkRaga a) (h2 : ∀ q ∈ a.2.2.2.2.2, ∃ x y, q = [x, y]) {p q : Int} (hp : -100 ≤ p ∧ p ≤ 100) (hq : -100 ≤ q ∧ q ≤ 100) : ∃ r, F_spec_l05Reason a p q = some r ∧ F_impl_Raga_reason a p q = some r ∧ 0 ≤ r := by
 obtain ⟨o0, o1, o2, _, _, o5⟩ := o
 unfold F_spec_l05Reason F_impl_Raga_reason
 simp only [l03Tone_eq, ToneOf_eq, Option.bind_some, l05Tone_eq o1.1 o2.1, hasTone_eq o1.1 o2.1]
 cases h1 : toneIn a (tone p)
 ·exact ⟨1, rfl, rfl, by decide⟩
 simp only [Bool.not_true, bif_f]
 cases h3 : toneIn a (tone q)
 ·exact ⟨1, rfl, rfl, by decide⟩
 simp only [Bool.not_true, bif_f]
 unfold F_impl_Raga_reason_j0 F_spec_l00Max F_impl_abs
 rw [bif_f]
 have w1 : w64 (p - q) = p - q := w64_id (by omega)
 have w2 : w64 (q - p) = q - p := w64_id (by omega)
 have w3 : w64 (0 - (p - q)) = q - p := by rw [w64_id (by omega)]; omega
 rw [w1, w2, w3]
 have tail : F_spec_l05Reason_j0 a p q (tone p) (tone q) = F_impl_Raga_reason_j1 a p q (tone p) (tone q) false := by
  unfold F_spec_l05Reason_j0 F_impl_Raga_reason_j1
  rw [bif_f]
  have j2 : F_impl_Raga_reason_j2 a (tone p) (tone q) false = F_spec_l05Reason_j1 a (tone p) (tone q) := by
   unfold F_impl_Raga_reason_j2
   rw [forb_spec o5.1 h2, forb_impl o5.1 h2, bif_f, Option.bind_some]
   cases forb a (tone p) (tone q) <;> rfl
  rw [← j2, l00Has_eq o2.1, ContainsI_eq o2.1]
  simp only [Option.bind_some]
  cases decide (q < p)
  ·rfl
  ·rw [bif_t, bif_t]
   cases decide (tone q ∈ a.2.2.1) <;> rfl
 have jt : F_impl_Raga_reason_j1 a p q (tone p) (tone q) true = some 3 := rfl
 rw [l00Has_eq o1.1, ContainsI_eq o1.1, tail]
 have jj : ∃ r, F_impl_Raga_reason_j1 a p q (tone p) (tone q) false = some r ∧ 0 ≤ r := by
  rw [← tail]
  unfold F_spec_l05Reason_j0
  rw [forb_spec o5.1 h2, l00Has_eq o2.1]
  simp only [Option.bind_some]
  cases decide (q < p) <;> cases decide (tone q ∈ a.2.2.1) <;> exact ⟨_, rfl, by first | decide | (split <;> decide)⟩
 obtain ⟨r0, hr0, hp0⟩ := jj
 simp only [Option.bind_some, hr0, jt]
 have hM : (if q - p > p - q then q - p else p - q) = (if p - q < q - p then q - p else p - q) := rfl
 by_cases hlt : q - p < p - q
 ·rw [decide_eq_true hlt, bif_t, if_neg (by omega)]
  simp only [Option.bind_some]
  cases decide (12 < p - q)
  ·rw [bif_f, bif_f]
   cases decide (p < q)
   ·exact ⟨r0, rfl, rfl, hp0⟩
   ·cases decide (tone q ∈ a.2.1)
    ·exact ⟨3, rfl, by simp [jt], by decide⟩
    ·exact ⟨r0, rfl, by simp [hr0], hp0⟩
  ·exact ⟨2, rfl, rfl, by decide⟩
 ·rw [decide_eq_false hlt, bif_f]
  have hA : (if q - p > p - q then q - p else p - q) = q - p := by split <;> omega
  rw [hA]
  simp only [Option.bind_some]
  cases decide (12 < q - p)
  ·rw [bif_f, bif_f]
   cases decide (p < q)
   ·exact ⟨r0, rfl, rfl, hp0⟩
   ·cases decide (tone q ∈ a.2.1)
    ·exact ⟨3, rfl, by simp [jt], by decide⟩
    ·exact ⟨r0, rfl, by simp [hr0], hp0⟩
  ·exact ⟨2, rfl, rfl, by decide⟩
noncomputable def rsn (a : TRaga) (p q : Int) : Int := (F_spec_l05Reason a p q).getD 1
theorem reason_eq {a : TRaga} (o : OkRaga a) (h2 : ∀ q ∈ a.2.2.2.2.2, ∃ x y, q = [x, y]) {p q : Int} (hp : -100 ≤ p ∧ p ≤ 100) (hq : -100 ≤ q ∧ q ≤ 100) : F_spec_l05Reason a p q = some (rsn a p q) ∧ F_impl_Raga_reason a p q = some (rsn a p q) ∧ 0 ≤ rsn a p q := by
 obtain ⟨r, e1, e2, e3⟩ := reason_ex o h2 hp hq
 have : rsn a p q = r := by unfold rsn; rw [e1]; rfl
 rw [this]; exact ⟨e1, e2, e3⟩
end Go.Ab
set_option linter.unusedVariables false
set_option linter.unusedSimpArgs false
namespace Go.Ab
open Go.RowKit
def pits (a : TRaga) (lo : Int) (n : Nat) : List Int := ((List.range n).map fun (j : Nat) => lo + (j : Int)).filter fun p => toneIn a (tone p)
theorem pits_succ (a : TRaga) (lo : Int) (n : Nat) : pits a lo (n + 1) = pits a lo n ++ (if toneIn a (tone (lo + n)) = true then [lo + (n : Int)] else []) := by
 unfold pits
 rw [List.range_succ, List.map_append, List.filter_append]
 congr 1
 cases h : toneIn a (tone (lo + n)) <;> simp [h]
theorem pits_len (a : TRaga) (lo : Int) (n : Nat) : (pits a lo n).length ≤ n := by
 unfold pits
 refine Nat.le_trans (List.length_filter_le _ _) ?_
 simp
theorem pits_in {a : TRaga} {lo : Int} {n : Nat} {p : Int} (h : p ∈ pits a lo n) : lo ≤ p ∧ p < lo + n := by
 unfold pits at h
 obtain ⟨h1, _⟩ := List.mem_filter.1 h
 obtain ⟨j, hj, rfl⟩ := List.mem_map.1 h1
 have := List.mem_range.1 hj
 omega
theorem pits_pw (a : TRaga) (lo : Int) (n : Nat) : List.Pairwise (fun x y : Int => x < y) (pits a lo n) := by
 unfold pits
 refine List.Pairwise.filter _ (List.pairwise_map.2 (List.pairwise_lt_range.imp ?_))
 intro x y h
 omega
def finL (L : List Int) : List Int := (L.zipIdx.filter fun x => decide (tone x.1 = 0)).map fun x => (x.2 : Int) + 1
def arc1 (L : List Int) : List TArc := L.zipIdx.map fun x => ((0 : Int), x.1, (x.2 : Int) + 1)
noncomputable def rowA (a : TRaga) (K : List Int) (p : Int) (i : Nat) : List TArc := (K.zipIdx.filter fun y => decide (rsn a p y.1 = 0)).map fun y => ((i : Int) + 1, y.1, (y.2 : Int) + 1)
noncomputable def arc2 (a : TRaga) (L M : List Int) : List TArc := M.zipIdx.flatMap fun x => rowA a L x.1 x.2
theorem zip_snoc (L : List Int) (p : Int) : (L ++ [p]).zipIdx = L.zipIdx ++ [(p, L.length)] := by simp [List.zipIdx_append]
theorem finL_snoc (L : List Int) (p : Int) : finL (L ++ [p]) = finL L ++ (if tone p = 0 then [(L.length : Int) + 1] else []) := by
 unfold finL
 rw [zip_snoc, List.filter_append, List.map_append]
 congr 1
 by_cases h : tone p = 0 <;> simp [h]
theorem arc1_snoc (L : List Int) (p : Int) : arc1 (L ++ [p]) = arc1 L ++ [((0 : Int), p, (L.length : Int) + 1)] := by
 unfold arc1
 rw [zip_snoc, List.map_append]; rfl
theorem rowA_snoc (a : TRaga) (K : List Int) (q p : Int) (i : Nat) : rowA a (K ++ [q]) p i = rowA a K p i ++ (if rsn a p q = 0 then [((i : Int) + 1, q, (K.length : Int) + 1)] else []) := by
 unfold rowA
 rw [zip_snoc, List.filter_append, List.map_append]
 congr 1
 by_cases h : rsn a p q = 0 <;> simp [h]
theorem arc2_snoc (a : TRaga) (L M : List Int) (p : Int) : arc2 a L (M ++ [p]) = arc2 a L M ++ rowA a L p M.length := by
 unfold arc2
 rw [zip_snoc, List.flatMap_append]
 simp
theorem finL_len (L : List Int) : (finL L).length ≤ L.length := by
 unfold finL
 rw [List.length_map]
 refine Nat.le_trans (List.length_filter_le _ _) ?_
 rw [List.length_zipIdx]; exact Nat.le_refl _
theorem arc1_len (L : List Int) : (arc1 L).length = L.length := by unfold arc1; rw [List.length_map, List.length_zipIdx]
theorem room24 {n : Nat} (h : n ≤ 100000) : room n 24 := ⟨by omega, by omega⟩
theorem room8 {n : Nat} (h : n ≤ 100000) : room n 8 := ⟨by omega, by omega⟩
theorem take_len {α : Type} {L : List α} {i : Nat} (h : i < L.length) : (L.take i).length = i := by rw [List.length_take]; omega
section
variable {a : TRaga}
theorem spec_l2 (o : OkRaga a) (h2 : ∀ q ∈ a.2.2.2.2.2, ∃ x y, q = [x, y]) {L fins : List Int} {acc0 : List TArc} (hb : ∀ p ∈ L, -100 ≤ p ∧ p ≤ 100) (hl : L.length ≤ 36) (h0 : acc0.length ≤ 36) :
  loop (F_spec_l07Of_l2 a L fins) (0, acc0) = some ((L.length : Int) + 1, 0, fins, acc0 ++ arc2 a L L) := by
 obtain ⟨r, e, hr⟩ := loop_ex (body := F_spec_l07Of_l2 a L fins) (s0 := (0, acc0)) (L := L) (Q := fun r => r = ((L.length : Int) + 1, 0, fins, acc0 ++ arc2 a L L))
  (fun i s => s.1 = (i : Int) ∧ s.2 = acc0 ++ arc2 a L (L.take i) ∧ s.2.length ≤ 36 + i * 36) (by omega) ⟨rfl, by simp [arc2], by dsimp only; omega⟩
  (by
   rintro i ⟨_, acc⟩ K p hp hi ⟨rfl, g1, g2⟩ hK
   dsimp only at g1 g2
   have hlt := get_lt hp
   simp only [F_spec_l07Of_l2, int_lt hlt, bif_t]
   refine loop_ex (L := L) (fun k s => s.1 = (k : Int) ∧ s.2 = acc ++ rowA a (L.take k) p i ∧ s.2.length ≤ acc.length + k) (by omega) ⟨rfl, by simp [rowA], by dsimp only; omega⟩ ?_ ?_
   ·rintro k ⟨_, ac⟩ K1 q hq hk ⟨rfl, q1, q2⟩ hK1
    dsimp only at q1 q2
    have hltk := get_lt hq
    have hr := (reason_eq o h2 (hb p (get_mem hp)) (hb q (get_mem hq))).1
    have hroom : room (ac.length + ([(w64 ((i : Int) + 1), q, ((k + 1 : Nat) : Int))] : List TArc).length) 24 := room24 (by simp only [List.length_singleton]; omega)
    simp only [F_spec_l07Of_l3, int_lt hltk, bif_t, ix_get hp, ix_get hq, Option.bind_some, hr, need_true hroom, bif_dec, w64_succ hk]
    have ht : L.take (k + 1) = L.take k ++ [q] := take_succ hq
    split
    ·rename_i h
     refine hK1 _ ⟨rfl, ?_, by simp only [List.length_append, List.length_singleton]; omega⟩
     dsimp only
     rw [ht, rowA_snoc, if_pos h, take_len hltk, q1, List.append_assoc, w64_id (show -9223372036854775808 ≤ (i : Int) + 1 ∧ (i : Int) + 1 ≤ 9223372036854775807 by omega), show ((k + 1 : Nat) : Int) = (k : Int) + 1 by omega]
    ·rename_i h
     refine hK1 _ ⟨rfl, ?_, by dsimp only; omega⟩
     dsimp only
     rw [ht, rowA_snoc, if_neg h, List.append_nil, q1]
   ·rintro ⟨_, ac⟩ K1 ⟨rfl, q1, q2⟩
    dsimp only at q1 q2
    simp only [F_spec_l07Of_l3, int_lt_self, bif_f, w64_succ hi]
    rw [take_all (Nat.le_refl _)] at q1
    refine hK _ ⟨rfl, ?_, by dsimp only; omega⟩
    dsimp only
    rw [take_succ hp, arc2_snoc, take_len hlt, q1, g1, List.append_assoc])
  (by
   rintro ⟨_, acc⟩ K ⟨rfl, g1, g2⟩
   dsimp only at g1 g2
   rw [take_all (Nat.le_refl _)] at g1
   refine ⟨_, ?_, rfl⟩
   simp only [F_spec_l07Of_l2, int_lt_self, bif_f]
   rw [g1, w64_id (by omega)])
 rw [e, hr]
theorem impl_l6 (o : OkRaga a) (h2 : ∀ q ∈ a.2.2.2.2.2, ∃ x y, q = [x, y]) {L fins : List Int} {acc0 : List TArc} {next : Int} (hb : ∀ p ∈ L, -100 ≤ p ∧ p ≤ 100) (hl : L.length ≤ 36) (h0 : acc0.length ≤ 36) :
  ∃ g c, loop (F_impl_GrammarOf_l6 a next L fins) (0, acc0) = some (g, c) ∧ decide (c = 0) = (!decide (32 < next) && !decide ((256 : Int) < ((acc0 ++ arc2 a L L).length : Int))) ∧ (c = 0 → g = (next, 0, fins, acc0 ++ arc2 a L L)) := by
 obtain ⟨r, e, hr⟩ := loop_ex (body := F_impl_GrammarOf_l6 a next L fins) (s0 := (0, acc0)) (L := L) (Q := fun r => decide (r.2 = 0) = (!decide (32 < next) && !decide ((256 : Int) < ((acc0 ++ arc2 a L L).length : Int))) ∧ (r.2 = 0 → r.1 = (next, 0, fins, acc0 ++ arc2 a L L)))
  (fun i s => s.1 = (i : Int) ∧ s.2 = acc0 ++ arc2 a L (L.take i) ∧ s.2.length ≤ 36 + i * 36) (by omega) ⟨rfl, by simp [arc2], by dsimp only; omega⟩
  (by
   rintro i ⟨_, acc⟩ K p hp hi ⟨rfl, g1, g2⟩ hK
   dsimp only at g1 g2
   have hlt := get_lt hp
   simp only [F_impl_GrammarOf_l6, int_lt hlt, bif_t, ix_get hp, Option.bind_some]
   refine loop_ex (L := L) (fun k s => s.1 = (k : Int) ∧ s.2 = acc ++ rowA a (L.take k) p i ∧ s.2.length ≤ acc.length + k) (by omega) ⟨rfl, by simp [rowA], by dsimp only; omega⟩ ?_ ?_
   ·rintro k ⟨_, ac⟩ K1 q hq hk ⟨rfl, q1, q2⟩ hK1
    dsimp only at q1 q2
    have hltk := get_lt hq
    have hr := (reason_eq o h2 (hb p (get_mem hp)) (hb q (get_mem hq))).2.1
    have hroom : room (ac.length + ([(w64 ((i : Int) + 1), q, ((k + 1 : Nat) : Int))] : List TArc).length) 24 := room24 (by simp only [List.length_singleton]; omega)
    simp only [F_impl_GrammarOf_l7, int_lt hltk, bif_t, ix_get hq, Option.bind_some, hr, need_true hroom, bif_dec, w64_succ hk]
    have ht : L.take (k + 1) = L.take k ++ [q] := take_succ hq
    split
    ·rename_i h
     refine hK1 _ ⟨rfl, ?_, by simp only [List.length_append, List.length_singleton]; omega⟩
     dsimp only
     rw [ht, rowA_snoc, if_pos h, take_len hltk, q1, List.append_assoc, w64_id (show -9223372036854775808 ≤ (i : Int) + 1 ∧ (i : Int) + 1 ≤ 9223372036854775807 by omega), show ((k + 1 : Nat) : Int) = (k : Int) + 1 by omega]
    ·rename_i h
     refine hK1 _ ⟨rfl, ?_, by dsimp only; omega⟩
     dsimp only
     rw [ht, rowA_snoc, if_neg h, List.append_nil, q1]
   ·rintro ⟨_, ac⟩ K1 ⟨rfl, q1, q2⟩
    dsimp only at q1 q2
    simp only [F_impl_GrammarOf_l7, int_lt_self, bif_f, w64_succ hi]
    rw [take_all (Nat.le_refl _)] at q1
    refine hK _ ⟨rfl, ?_, by dsimp only; omega⟩
    dsimp only
    rw [take_succ hp, arc2_snoc, take_len hlt, q1, g1, List.append_assoc])
  (by
   rintro ⟨_, acc⟩ K ⟨rfl, g1, g2⟩
   dsimp only at g1 g2
   rw [take_all (Nat.le_refl _)] at g1
   simp only [F_impl_GrammarOf_l6, int_lt_self, bif_f]
   rw [g1]
   cases decide (32 < next)
   ·rw [bif_f]
    cases decide ((256 : Int) < ((acc0 ++ arc2 a L L).length : Int))
    ·exact ⟨_, rfl, rfl, fun _ => rfl⟩
    ·exact ⟨_, rfl, rfl, fun h => by cases h⟩
   ·exact ⟨_, rfl, rfl, fun h => by cases h⟩)
 obtain ⟨g, c⟩ := r
 exact ⟨g, c, e, hr⟩
theorem spec_l1 (o : OkRaga a) (h2 : ∀ q ∈ a.2.2.2.2.2, ∃ x y, q = [x, y]) {L : List Int} (hb : ∀ p ∈ L, -100 ≤ p ∧ p ≤ 100) (hl : L.length ≤ 36) :
  loop (F_spec_l07Of_l1 a L) (0, [], []) = some ((L.length : Int) + 1, 0, finL L, arc1 L ++ arc2 a L L) := by
 obtain ⟨r, e, hr⟩ := loop_ex (body := F_spec_l07Of_l1 a L) (s0 := (0, [], [])) (L := L) (Q := fun r => r = ((L.length : Int) + 1, 0, finL L, arc1 L ++ arc2 a L L))
  (fun i s => s = ((i : Int), finL (L.take i), arc1 (L.take i))) (by omega) rfl
  (by
   rintro i _ K p hp hi rfl hK
   have hlt := get_lt hp
   have hf := finL_len (L.take i)
   have ha := arc1_len (L.take i)
   rw [take_len hlt] at hf ha
   have hr1 : room ((arc1 (L.take i)).length + ([(0, p, ((i + 1 : Nat) : Int))] : List TArc).length) 24 := room24 (by simp only [List.length_singleton]; omega)
   have hr2 : room ((finL (L.take i)).length + ([((i + 1 : Nat) : Int)] : List Int).length) 8 := room8 (by simp only [List.length_singleton]; omega)
   simp only [F_spec_l07Of_l1, int_lt hlt, bif_t, ix_get hp, Option.bind_some, need_true hr1, need_true hr2, l03Tone_eq, bif_dec, w64_succ hi]
   have hc : (((i + 1 : Nat) : Int)) = (i : Int) + 1 := by omega
   split
   ·rename_i h
    refine hK _ ?_
    rw [take_succ hp, finL_snoc, arc1_snoc, if_pos h, take_len hlt, hc]
   ·rename_i h
    refine hK _ ?_
    rw [take_succ hp, finL_snoc, arc1_snoc, if_neg h, take_len hlt, hc, List.append_nil])
  (by
   rintro _ K rfl
   simp only [F_spec_l07Of_l1, int_lt_self, bif_f]
   rw [take_all (Nat.le_refl _)]
   have ha := arc1_len L
   exact ⟨_, spec_l2 o h2 hb hl (by omega), rfl⟩)
 rw [e, hr]
theorem spec_of (o : OkRaga a) (h2 : ∀ q ∈ a.2.2.2.2.2, ∃ x y, q = [x, y]) {lo hi : Int} (h : -12 ≤ lo ∧ lo ≤ hi ∧ hi ≤ 23) :
  F_spec_l07Of a lo hi = some (((pits a lo (hi + 1 - lo).toNat).length : Int) + 1, 0, finL (pits a lo (hi + 1 - lo).toNat), arc1 (pits a lo (hi + 1 - lo).toNat) ++ arc2 a (pits a lo (hi + 1 - lo).toNat) (pits a lo (hi + 1 - lo).toNat)) := by
 generalize hN : (hi + 1 - lo).toNat = N
 have hl := pits_len a lo N
 have hb : ∀ p ∈ pits a lo N, -100 ≤ p ∧ p ≤ 100 := fun p hp => by have := pits_in hp; omega
 unfold F_spec_l07Of
 obtain ⟨r, e, hr⟩ := loop_ex (body := F_spec_l07Of_l0 a hi) (s0 := (lo, [])) (L := List.range N) (Q := fun r => r = (((pits a lo N).length : Int) + 1, 0, finL (pits a lo N), arc1 (pits a lo N) ++ arc2 a (pits a lo N) (pits a lo N)))
  (fun i s => s = (lo + (i : Int), pits a lo i)) (by rw [List.length_range]; omega) (by simp [pits])
  (by
   rintro i _ K j hj hi2 rfl hK
   have hlt := get_lt hj
   rw [List.length_range] at hlt
   have hn := pits_len a lo i
   have hr1 : room ((pits a lo i).length + ([lo + (i : Int)] : List Int).length) 8 := room8 (by simp only [List.length_singleton]; omega)
   have hw : w64 (lo + (i : Int) + 1) = lo + ((i + 1 : Nat) : Int) := by rw [w64_id (by omega)]; omega
   have hle : decide (lo + (i : Int) ≤ hi) = true := decide_eq_true (by omega)
   simp only [F_spec_l07Of_l0, hle, bif_t, l03Tone_eq, Option.bind_some, l05Tone_eq o.2.1.1 o.2.2.1.1, need_true hr1, hw]
   have hs := pits_succ a lo i
   cases ht : toneIn a (tone (lo + i))
   ·rw [ht, if_neg (by simp), List.append_nil] at hs
    rw [bif_f]
    exact hK _ (by rw [hs])
   ·rw [ht, if_pos rfl] at hs
    rw [bif_t]
    exact hK _ (by rw [hs]))
  (by
   rintro _ K rfl
   rw [List.length_range]
   have hle : decide (lo + (N : Int) ≤ hi) = false := decide_eq_false (by omega)
   simp only [F_spec_l07Of_l0, hle, bif_f]
   exact ⟨_, spec_l1 o h2 hb (by omega), rfl⟩)
 rw [e, hr]
theorem impl_of (o : OkRaga a) (h2 : ∀ q ∈ a.2.2.2.2.2, ∃ x y, q = [x, y]) {lo hi : Int} (h : -12 ≤ lo ∧ lo ≤ hi ∧ hi ≤ 23) :
  ∃ g c, loop (F_impl_GrammarOf_l2 a hi) (lo, 1, [], [], []) = some (g, c) ∧ decide (c = 0) = (!decide ((32 : Int) < ((pits a lo (hi + 1 - lo).toNat).length : Int) + 1) && !decide ((256 : Int) < ((arc1 (pits a lo (hi + 1 - lo).toNat) ++ arc2 a (pits a lo (hi + 1 - lo).toNat) (pits a lo (hi + 1 - lo).toNat)).length : Int))) ∧ (c = 0 → g = (((pits a lo (hi + 1 - lo).toNat).length : Int) + 1, 0, finL (pits a lo (hi + 1 - lo).toNat), arc1 (pits a lo (hi + 1 - lo).toNat) ++ arc2 a (pits a lo (hi + 1 - lo).toNat) (pits a lo (hi + 1 - lo).toNat))) := by
 generalize hN : (hi + 1 - lo).toNat = N
 have hl := pits_len a lo N
 have hb : ∀ p ∈ pits a lo N, -100 ≤ p ∧ p ≤ 100 := fun p hp => by have := pits_in hp; omega
 obtain ⟨r, e, hr⟩ := loop_ex (body := F_impl_GrammarOf_l2 a hi) (s0 := (lo, 1, [], [], [])) (L := List.range N) (Q := fun r => decide (r.2 = 0) = (!decide ((32 : Int) < ((pits a lo N).length : Int) + 1) && !decide ((256 : Int) < ((arc1 (pits a lo N) ++ arc2 a (pits a lo N) (pits a lo N)).length : Int))) ∧ (r.2 = 0 → r.1 = (((pits a lo N).length : Int) + 1, 0, finL (pits a lo N), arc1 (pits a lo N) ++ arc2 a (pits a lo N) (pits a lo N))))
  (fun i s => s = (lo + (i : Int), ((pits a lo i).length : Int) + 1, pits a lo i, finL (pits a lo i), arc1 (pits a lo i))) (by rw [List.length_range]; omega) (by simp [pits, finL, arc1])
  (by
   rintro i _ K j hj hi2 rfl hK
   have hlt := get_lt hj
   rw [List.length_range] at hlt
   have hn := pits_len a lo i
   have hf := finL_len (pits a lo i)
   have ha := arc1_len (pits a lo i)
   have hr1 : room ((pits a lo i).length + ([lo + (i : Int)] : List Int).length) 8 := room8 (by simp only [List.length_singleton]; omega)
   have hr2 : room ((finL (pits a lo i)).length + ([((pits a lo i).length : Int) + 1] : List Int).length) 8 := room8 (by simp only [List.length_singleton]; omega)
   have hr3 : room ((arc1 (pits a lo i)).length + ([(0, lo + (i : Int), ((pits a lo i).length : Int) + 1)] : List TArc).length) 24 := room24 (by simp only [List.length_singleton]; omega)
   have hw : w64 (lo + (i : Int) + 1) = lo + ((i + 1 : Nat) : Int) := by rw [w64_id (by omega)]; omega
   have hw2 : w64 (((pits a lo i).length : Int) + 1 + 1) = ((pits a lo i).length : Int) + 1 + 1 := w64_id (by omega)
   have hle : decide (lo + (i : Int) ≤ hi) = true := decide_eq_true (by omega)
   have hs := pits_succ a lo i
   simp only [F_impl_GrammarOf_l2, F_impl_GrammarOf_j3, hle, bif_t, ToneOf_eq, Option.bind_some, hasTone_eq o.2.1.1 o.2.2.1.1, need_true hr1, need_true hr2, need_true hr3, hw, hw2, nif, bif_dec]
   cases ht : toneIn a (tone (lo + i))
   ·rw [ht, if_neg (by simp), List.append_nil] at hs
    rw [bif_f]
    exact hK _ (by rw [hs])
   ·rw [ht, if_pos rfl] at hs
    rw [bif_t]
    have hlen : ((pits a lo (i + 1)).length : Int) + 1 = ((pits a lo i).length : Int) + 1 + 1 := by rw [hs, List.length_append, List.length_singleton]; omega
    split
    ·rename_i h0
     refine hK _ ?_
     rw [hlen, hs, finL_snoc, arc1_snoc, if_pos h0]
    ·rename_i h0
     refine hK _ ?_
     rw [hlen, hs, finL_snoc, arc1_snoc, if_neg h0, List.append_nil])
  (by
   rintro _ K rfl
   rw [List.length_range]
   have hle : decide (lo + (N : Int) ≤ hi) = false := decide_eq_false (by omega)
   simp only [F_impl_GrammarOf_l2, hle, bif_f]
   have ha := arc1_len (pits a lo N)
   obtain ⟨g, c, e, hc⟩ := impl_l6 (next := ((pits a lo N).length : Int) + 1) (fins := finL (pits a lo N)) o h2 hb (show (pits a lo N).length ≤ 36 by omega) (show (arc1 (pits a lo N)).length ≤ 36 by omega)
   exact ⟨_, e, hc⟩)
 obtain ⟨g, c⟩ := r
 exact ⟨g, c, e, hr⟩
end
end Go.Ab
set_option linter.unusedVariables false
set_option linter.unusedSimpArgs false
namespace Go.Ab
open Go.RowKit
theorem zip_pw {L : List Int} (h : List.Pairwise (fun x y : Int => x < y) L) : List.Pairwise (fun x y : Int × Nat => x.1 < y.1 ∧ x.2 < y.2) L.zipIdx := by
 rw [List.pairwise_iff_getElem]
 intro i j hi hj hij
 rw [List.getElem_zipIdx, List.getElem_zipIdx]
 rw [List.length_zipIdx] at hi hj
 exact ⟨List.pairwise_iff_getElem.1 h i j hi hj hij, by dsimp only; omega⟩
theorem zip_in {L : List Int} {x : Int × Nat} (h : x ∈ L.zipIdx) : x.1 ∈ L ∧ x.2 < L.length := by
 have := List.mem_zipIdx_iff_getElem?.1 h
 exact ⟨get_mem this, get_lt this⟩
def alx (x y : TArc) : Prop := x.1 < y.1 ∨ (x.1 = y.1 ∧ x.2.1 < y.2.1)
theorem row_pw {a : TRaga} {L : List Int} (h : List.Pairwise (fun x y : Int => x < y) L) (p : Int) (i : Nat) : List.Pairwise alx (rowA a L p i) := by
 unfold rowA
 refine List.pairwise_map.2 (((zip_pw h).filter _).imp ?_)
 intro x y h
 exact .inr ⟨rfl, h.1⟩
theorem row_from {a : TRaga} {L : List Int} {p : Int} {i : Nat} {x : TArc} (h : x ∈ rowA a L p i) : x.1 = (i : Int) + 1 ∧ x.2.1 ∈ L ∧ 1 ≤ x.2.2 ∧ x.2.2 ≤ L.length := by
 unfold rowA at h
 obtain ⟨y, hy, rfl⟩ := List.mem_map.1 h
 obtain ⟨h1, h2⟩ := zip_in (List.mem_filter.1 hy).1
 exact ⟨rfl, h1, by dsimp only; omega, by dsimp only; omega⟩
theorem arcs_pw {a : TRaga} {L : List Int} (h : List.Pairwise (fun x y : Int => x < y) L) : List.Pairwise alx (arc1 L ++ arc2 a L L) := by
 rw [List.pairwise_append]
 refine ⟨?_, ?_, ?_⟩
 ·unfold arc1
  refine List.pairwise_map.2 ((zip_pw h).imp ?_)
  intro x y h
  exact .inr ⟨rfl, h.1⟩
 ·unfold arc2
  rw [List.pairwise_flatMap]
  refine ⟨fun x _ => row_pw h _ _, (zip_pw h).imp ?_⟩
  intro x y hxy u hu v hv
  have h1 := (row_from hu).1
  have h2 := (row_from hv).1
  have := hxy.2
  exact .inl (by omega)
 ·intro x hx y hy
  unfold arc1 at hx
  obtain ⟨z, _, rfl⟩ := List.mem_map.1 hx
  unfold arc2 at hy
  obtain ⟨u, _, hu⟩ := List.mem_flatMap.1 hy
  have := (row_from hu).1
  exact .inl (by dsimp only; omega)
theorem arcs_in {a : TRaga} {L : List Int} {x : TArc} (h : x ∈ arc1 L ++ arc2 a L L) : (0 ≤ x.1 ∧ x.1 ≤ L.length) ∧ x.2.1 ∈ L ∧ (0 ≤ x.2.2 ∧ x.2.2 ≤ L.length) := by
 rcases List.mem_append.1 h with h | h
 ·unfold arc1 at h
  obtain ⟨z, hz, rfl⟩ := List.mem_map.1 h
  obtain ⟨h1, h2⟩ := zip_in hz
  exact ⟨⟨by dsimp only; omega, by dsimp only; omega⟩, h1, by dsimp only; omega, by dsimp only; omega⟩
 ·unfold arc2 at h
  obtain ⟨u, hu, hx⟩ := List.mem_flatMap.1 h
  obtain ⟨_, h2⟩ := zip_in hu
  obtain ⟨h3, h4, h5, h6⟩ := row_from hx
  exact ⟨⟨by omega, by omega⟩, h4, by omega, by omega⟩
theorem fin_rises {L : List Int} (h : List.Pairwise (fun x y : Int => x < y) L) : rises (finL L) 0 (L.length : Int) = true := by
 unfold rises
 rw [adj_iff]
 have hp : List.Pairwise (fun x y : Int => x < y) (finL L) := by
  unfold finL
  refine List.pairwise_map.2 (((zip_pw h).filter _).imp ?_)
  intro x y h
  have := h.2
  omega
 refine ⟨fun x hx => ?_, fun i x y hx hy => ?_⟩
 ·unfold finL at hx
  obtain ⟨z, hz, rfl⟩ := List.mem_map.1 hx
  obtain ⟨h1, h2⟩ := zip_in (List.mem_filter.1 hz).1
  exact decide_eq_true (by omega)
 ·have h1 := get_lt hx
  have h2 := get_lt hy
  have := List.pairwise_iff_getElem.1 hp i (i + 1) h1 h2 (by omega)
  rw [List.getElem?_eq_getElem h1] at hx
  rw [List.getElem?_eq_getElem h2] at hy
  cases hx; cases hy; exact decide_eq_true this
theorem l07Ok_eq {a : TRaga} {L : List Int} (h : List.Pairwise (fun x y : Int => x < y) L) (hb : ∀ p ∈ L, -12 ≤ p ∧ p ≤ 23) (hl : L.length ≤ 36) (hal : (arc1 L ++ arc2 a L L).length ≤ 100000) :
  F_spec_l07Ok ((L.length : Int) + 1, 0, finL L, arc1 L ++ arc2 a L L) = some (!decide ((32 : Int) < (L.length : Int) + 1) && !decide ((256 : Int) < ((arc1 L ++ arc2 a L L).length : Int))) := by
 have hw : w64 ((L.length : Int) + 1 - 1) = (L.length : Int) := by rw [w64_id (by omega)]; omega
 have hf := finL_len L
 have hpw := arcs_pw (a := a) h
 have hin : ∀ x ∈ arc1 L ++ arc2 a L L, _ := fun x hx => arcs_in hx
 unfold F_spec_l07Ok
 dsimp only
 rw [l00In_eq, hw, l00In_eq, l00Rises_eq (by omega), fin_rises h]
 simp only [Option.bind_some, Bool.not_true, bif_f]
 rw [decide_eq_true (show (0 : Int) ≤ 0 ∧ (0 : Int) ≤ (L.length : Int) by omega), Bool.not_true, bif_f]
 by_cases h32 : (32 : Int) < (L.length : Int) + 1
 ·rw [decide_eq_false (show ¬ (1 ≤ (L.length : Int) + 1 ∧ (L.length : Int) + 1 ≤ 32) by omega), decide_eq_true h32]; rfl
 ·rw [decide_eq_true (show 1 ≤ (L.length : Int) + 1 ∧ (L.length : Int) + 1 ≤ 32 by omega), decide_eq_false h32]
  simp only [Bool.not_true, bif_f, Bool.not_false, Bool.true_and]
  cases decide ((256 : Int) < ((arc1 L ++ arc2 a L L).length : Int))
  ·rw [bif_f]
   have e : loop (F_spec_l07Ok_l0 ((L.length : Int) + 1, 0, finL L, arc1 L ++ arc2 a L L)) 0 = some (adj (fun x : TArc => decide (0 ≤ x.1 ∧ x.1 ≤ (L.length : Int)) && (decide (-12 ≤ x.2.1 ∧ x.2.1 ≤ 23) && decide (0 ≤ x.2.2 ∧ x.2.2 ≤ (L.length : Int)))) (fun q x => !decide (x.1 < q.1) && !(decide (q.1 = x.1) && decide (x.2.1 ≤ q.2.1))) none (arc1 L ++ arc2 a L L) && true) := by
    generalize hAA : arc1 L ++ arc2 a L L = AA at hal
    refine loop_adj (A := AA) (by omega) ?_ ?_ ?_
    ·intro k x hx
     have h0 : (0 : Int) = ((0 : Nat) : Int) := rfl
     rw [h0]
     simp only [F_spec_l07Ok_l0, F_spec_l03Pitch, int_lt (get_lt hx), bif_t, ix_get hx, Option.bind_some, l00In_eq, nif, hw]
     cases decide (((0 : Nat) : Int) ≤ x.1 ∧ x.1 ≤ (L.length : Int)) <;> cases decide (-12 ≤ x.2.1 ∧ x.2.1 ≤ 23) <;> cases decide (((0 : Nat) : Int) ≤ x.2.2 ∧ x.2.2 ≤ (L.length : Int)) <;> rfl
    ·intro i k q x hq hx hi
     simp only [F_spec_l07Ok_l0, F_spec_l03Pitch, int_lt (get_lt hx), bif_t, ix_get hx, Option.bind_some, l00In_eq, nif, hw, int_pos', w64_pred (show i < 9223372036854775807 by omega), w64_succ hi, ix_get hq]
     cases decide (0 ≤ x.1 ∧ x.1 ≤ (L.length : Int)) <;> cases decide (-12 ≤ x.2.1 ∧ x.2.1 ≤ 23) <;> cases decide (0 ≤ x.2.2 ∧ x.2.2 ≤ (L.length : Int)) <;> cases decide (x.1 < q.1) <;> cases decide (q.1 = x.1) <;> cases decide (x.2.1 ≤ q.2.1) <;> rfl
    ·intro k
     simp only [F_spec_l07Ok_l0, int_lt_self, bif_f]
   rw [e, Bool.and_true, Bool.not_false]
   congr 1
   rw [adj_iff]
   refine ⟨fun x hx => ?_, fun i x y hx hy => ?_⟩
   ·obtain ⟨g1, g2, g3⟩ := hin x hx
    have := hb _ g2
    rw [decide_eq_true g1, decide_eq_true this, decide_eq_true g3]; rfl
   ·have h1 := get_lt hx
    have h2 := get_lt hy
    have := List.pairwise_iff_getElem.1 hpw i (i + 1) h1 h2 (by omega)
    rw [List.getElem?_eq_getElem h1] at hx
    rw [List.getElem?_eq_getElem h2] at hy
    cases hx; cases hy
    rcases this with h | ⟨h3, h4⟩
    ·rw [decide_eq_false (by omega), decide_eq_false (by omega)]; rfl
    ·rw [decide_eq_false (by omega), decide_eq_true h3, decide_eq_false (by omega)]; rfl
  ·rfl
theorem arc2_len (a : TRaga) (L : List Int) (hl : L.length ≤ 36) : ∀ M : List Int, (arc2 a L M).length ≤ M.length * 36 := by
 intro M
 unfold arc2
 rw [List.length_flatMap]
 have : ∀ N : List (Int × Nat), (N.map fun x => (rowA a L x.1 x.2).length).sum ≤ N.length * 36 := by
  intro N
  induction N with
  | nil => simp
  | cons x N ih =>
   have hx : (rowA a L x.1 x.2).length ≤ 36 := by
    unfold rowA
    rw [List.length_map]
    refine Nat.le_trans (List.length_filter_le _ _) ?_
    rw [List.length_zipIdx]; exact hl
   simp only [List.map_cons, List.sum_cons, List.length_cons]
   omega
 have h := this M.zipIdx
 rw [List.length_zipIdx] at h
 exact h
end Go.Ab
set_option linter.unusedVariables false
set_option linter.unusedSimpArgs false
namespace Go.Ab
open Go.RowKit
structure GoodW (w : TWork) : Prop where
 raga : ragaOk (w.1, w.2.1, w.2.2.1, w.2.2.2.1, w.2.2.2.2.1, w.2.2.2.2.2.1) = true
 lo : -12 ≤ w.2.2.2.2.2.2.1 ∧ w.2.2.2.2.2.2.1 ≤ 23
 hi : w.2.2.2.2.2.2.1 ≤ w.2.2.2.2.2.2.2.1 ∧ w.2.2.2.2.2.2.2.1 ≤ 23
 mel : melOk w.2.2.2.2.2.2.2.2.1 = true
 few : (!decide ((32 : Int) < ((pits (w.1, w.2.1, w.2.2.1, w.2.2.2.1, w.2.2.2.2.1, w.2.2.2.2.2.1) w.2.2.2.2.2.2.1 (w.2.2.2.2.2.2.2.1 + 1 - w.2.2.2.2.2.2.1).toNat).length : Int) + 1) && !decide ((256 : Int) < ((arc1 (pits (w.1, w.2.1, w.2.2.1, w.2.2.2.1, w.2.2.2.2.1, w.2.2.2.2.2.1) w.2.2.2.2.2.2.1 (w.2.2.2.2.2.2.2.1 + 1 - w.2.2.2.2.2.2.1).toNat) ++ arc2 (w.1, w.2.1, w.2.2.1, w.2.2.2.1, w.2.2.2.2.1, w.2.2.2.2.2.1) (pits (w.1, w.2.1, w.2.2.1, w.2.2.2.1, w.2.2.2.2.1, w.2.2.2.2.2.1) w.2.2.2.2.2.2.1 (w.2.2.2.2.2.2.2.1 + 1 - w.2.2.2.2.2.2.1).toNat) (pits (w.1, w.2.1, w.2.2.1, w.2.2.2.1, w.2.2.2.2.1, w.2.2.2.2.2.1) w.2.2.2.2.2.2.1 (w.2.2.2.2.2.2.2.1 + 1 - w.2.2.2.2.2.2.1).toNat)).length : Int))) = true
 turns : turnsOk w.2.2.2.2.2.2.2.2.2.2.2.2.2.2.2.2.2 = true
theorem two_of {a : TRaga} (hR : ragaOk a = true) : ∀ q ∈ a.2.2.2.2.2, ∃ x y, q = [x, y] := by
 intro q hq
 unfold ragaOk at hR
 simp only [Bool.and_eq_true] at hR
 have := hR.2.2.2.2.2.2
 unfold pairsOk at this
 rw [Bool.and_eq_true] at this
 exact pr2_two ((adj_all this.1).1 q hq)
theorem work_ex (w : TWork) (o : OkWork w) : ∃ r, F_spec_l31Ok w = some r ∧ F_impl_ValidWork w = some r ∧ (r = true → GoodW w) := by
 obtain ⟨oR, oLo, oHi, oM, oT, _, _, _, _, _, oU⟩ := o
 unfold F_spec_l31Ok F_impl_ValidWork F_impl_GrammarOf F_spec_l03Pitch F_impl_pitchOk
 rw [l05Ok_eq oR, ValidRaga_eq oR, l09Ok_eq oM.1, ValidMelody_eq oM.1, l23Ok_eq oU, ValidTurns_eq oU]
 simp only [Option.bind_some, l00In_eq, within_eq, nif]
 obtain ⟨cI, ei, hi⟩ := cad_impl oT w.2.2.2.2.2.2.2.2.2.2.2.2.1 w.2.2.2.2.2.2.2.2.2.2.2.2.2.2.1 w.2.2.2.2.2.2.2.2.2.2.2.2.2.2.2.1 w.2.2.2.2.2.2.2.2.2.2.2.2.2.2.2.2.1
 obtain ⟨cS, es, ep, eg, hs⟩ := cad_spec oT w.2.2.2.2.2.2.2.2.2.2.2.2.1 w.2.2.2.2.2.2.2.2.2.2.2.2.2.2.1 w.2.2.2.2.2.2.2.2.2.2.2.2.2.2.2.1 w.2.2.2.2.2.2.2.2.2.2.2.2.2.2.2.2.1
 rw [ei, es, ep, eg]
 simp only [Option.bind_some]
 rw [hi, ← hs]
 cases hR : ragaOk (w.1, w.2.1, w.2.2.1, w.2.2.2.1, w.2.2.2.2.1, w.2.2.2.2.2.1)
 ·exact ⟨false, rfl, rfl, fun h => by cases h⟩
 by_cases hp : -12 ≤ w.2.2.2.2.2.2.1 ∧ w.2.2.2.2.2.2.1 ≤ 23
 case neg => rw [decide_eq_false hp]; exact ⟨false, rfl, rfl, fun h => by cases h⟩
 by_cases hq : w.2.2.2.2.2.2.1 ≤ w.2.2.2.2.2.2.2.1 ∧ w.2.2.2.2.2.2.2.1 ≤ 23
 case neg => rw [decide_eq_true hp, decide_eq_false hq]; exact ⟨false, rfl, rfl, fun h => by cases h⟩
 rw [decide_eq_true hp, decide_eq_true hq]
 simp only [bif_t]
 have h2 := two_of hR
 have hsp := spec_of oR h2 (lo := w.2.2.2.2.2.2.1) (hi := w.2.2.2.2.2.2.2.1) ⟨hp.1, hq.1, hq.2⟩
 obtain ⟨g, c, hig, hc, _⟩ := impl_of oR h2 (lo := w.2.2.2.2.2.2.1) (hi := w.2.2.2.2.2.2.2.1) ⟨hp.1, hq.1, hq.2⟩
 rw [hsp, hig]
 simp only [Option.bind_some]
 have hN : (w.2.2.2.2.2.2.2.1 + 1 - w.2.2.2.2.2.2.1).toNat ≤ 36 := by omega
 have hNe : (w.2.2.2.2.2.2.1 : Int) + (((w.2.2.2.2.2.2.2.1 + 1 - w.2.2.2.2.2.2.1).toNat : Nat) : Int) ≤ 24 := by omega
 have hpl := pits_len (w.1, w.2.1, w.2.2.1, w.2.2.2.1, w.2.2.2.2.1, w.2.2.2.2.2.1) w.2.2.2.2.2.2.1 (w.2.2.2.2.2.2.2.1 + 1 - w.2.2.2.2.2.2.1).toNat
 have hpp := pits_pw (w.1, w.2.1, w.2.2.1, w.2.2.2.1, w.2.2.2.2.1, w.2.2.2.2.2.1) w.2.2.2.2.2.2.1 (w.2.2.2.2.2.2.2.1 + 1 - w.2.2.2.2.2.2.1).toNat
 have hpb : ∀ p ∈ pits (w.1, w.2.1, w.2.2.1, w.2.2.2.1, w.2.2.2.2.1, w.2.2.2.2.2.1) w.2.2.2.2.2.2.1 (w.2.2.2.2.2.2.2.1 + 1 - w.2.2.2.2.2.2.1).toNat, -12 ≤ p ∧ p ≤ 23 := fun p h => by have := pits_in h; omega
 have hfew : ∀ b : Bool, (!decide ((32 : Int) < ((pits (w.1, w.2.1, w.2.2.1, w.2.2.2.1, w.2.2.2.2.1, w.2.2.2.2.2.1) w.2.2.2.2.2.2.1 (w.2.2.2.2.2.2.2.1 + 1 - w.2.2.2.2.2.2.1).toNat).length : Int) + 1) && !decide ((256 : Int) < ((arc1 (pits (w.1, w.2.1, w.2.2.1, w.2.2.2.1, w.2.2.2.2.1, w.2.2.2.2.2.1) w.2.2.2.2.2.2.1 (w.2.2.2.2.2.2.2.1 + 1 - w.2.2.2.2.2.2.1).toNat) ++ arc2 (w.1, w.2.1, w.2.2.1, w.2.2.2.1, w.2.2.2.2.1, w.2.2.2.2.2.1) (pits (w.1, w.2.1, w.2.2.1, w.2.2.2.1, w.2.2.2.2.1, w.2.2.2.2.2.1) w.2.2.2.2.2.2.1 (w.2.2.2.2.2.2.2.1 + 1 - w.2.2.2.2.2.2.1).toNat) (pits (w.1, w.2.1, w.2.2.1, w.2.2.2.1, w.2.2.2.2.1, w.2.2.2.2.2.1) w.2.2.2.2.2.2.1 (w.2.2.2.2.2.2.2.1 + 1 - w.2.2.2.2.2.2.1).toNat)).length : Int))) = b → b = true → melOk w.2.2.2.2.2.2.2.2.1 = true → turnsOk w.2.2.2.2.2.2.2.2.2.2.2.2.2.2.2.2.2 = true → GoodW w := fun b h1 h2 h3 h4 => ⟨hR, hp, hq, h3, by rw [h1]; exact h2, h4⟩
 generalize pits (w.1, w.2.1, w.2.2.1, w.2.2.2.1, w.2.2.2.2.1, w.2.2.2.2.2.1) w.2.2.2.2.2.2.1 (w.2.2.2.2.2.2.2.1 + 1 - w.2.2.2.2.2.2.1).toNat = L at hc hpl hpp hpb hfew
 have hal : (arc1 L ++ arc2 (w.1, w.2.1, w.2.2.1, w.2.2.2.1, w.2.2.2.2.1, w.2.2.2.2.2.1) L L).length ≤ 100000 := by
  have h1 := arc1_len L
  have h3 := arc2_len (w.1, w.2.1, w.2.2.1, w.2.2.2.1, w.2.2.2.2.1, w.2.2.2.2.2.1) L (by omega) L
  rw [List.length_append]; omega
 rw [l07Ok_eq hpp hpb (by omega) hal, hc]
 simp only [Option.bind_some]
 generalize (!decide ((32 : Int) < (L.length : Int) + 1) && !decide ((256 : Int) < ((arc1 L ++ arc2 (w.1, w.2.1, w.2.2.1, w.2.2.2.1, w.2.2.2.2.1, w.2.2.2.2.2.1) L L).length : Int))) = b1 at hfew ⊢
 generalize hb2 : melOk w.2.2.2.2.2.2.2.2.1 = b2
 generalize hb3 : turnsOk w.2.2.2.2.2.2.2.2.2.2.2.2.2.2.2.2.2 = b3
 generalize decide (cS = 0) = b4
 generalize decide (1 ≤ w.2.2.2.2.2.2.2.2.2.2.2.2.2.2.2.1 ∧ w.2.2.2.2.2.2.2.2.2.2.2.2.2.2.2.1 ≤ 64) = b5
 generalize decide (0 ≤ w.2.2.2.2.2.2.2.2.2.2.2.2.2.2.2.2.1 ∧ w.2.2.2.2.2.2.2.2.2.2.2.2.2.2.2.2.1 ≤ 32) = b6
 refine ⟨b1 && (b2 && (b3 && (b4 && (b5 && b6)))), ?_, ?_, fun h => ?_⟩
 ·cases b1 <;> cases b2 <;> cases b3 <;> cases b4 <;> cases b5 <;> cases b6 <;> rfl
 ·cases b1 <;> cases b2 <;> cases b3 <;> cases b4 <;> cases b5 <;> cases b6 <;> rfl
 ·simp only [Bool.and_eq_true] at h
  exact hfew b1 rfl h.1 (by rw [hb2]; exact h.2.1) (by rw [hb3]; exact h.2.2.1)
end Go.Ab
set_option linter.unusedVariables false
set_option linter.unusedSimpArgs false
namespace Go.Ab
open Go.RowKit
open Go.Lib (itoa decDigits)
theorem dig_len : ∀ (k u : Nat), u < 10 ^ (k + 1) → (decDigits u).length ≤ k + 1
 | 0, u, h => by rw [decDigits, dif_pos (by simpa using h)]; simp
 | k + 1, u, h => by
  rw [decDigits]
  split
  ·simp
  ·have := dig_len k (u / 10) (by rw [Nat.pow_succ] at h; omega)
   rw [List.length_append, List.length_singleton]; omega
def dg0 (u : Nat) : List UInt8 := if u = 0 then [] else decDigits u
theorem dg0_step {u : Nat} (h : u ≠ 0) : dg0 u = dg0 (u / 10) ++ [UInt8.ofNat (48 + u % 10)] := by
 unfold dg0
 rw [if_neg h, decDigits]
 by_cases h1 : u < 10
 ·rw [dif_pos h1, if_pos (by omega), Nat.mod_eq_of_lt h1]; rfl
 ·rw [dif_neg h1, if_neg (by omega)]
end Go.Ab
set_option linter.unusedVariables false
set_option linter.unusedSimpArgs false
namespace Go.Ab
open Go.RowKit
open Go.Lib (itoa decDigits)
theorem rev_loop (L : List Int) (hL : L.length ≤ 1000) : F_spec_l01Dec_j2 L = some (bytesI L.reverse) := by
 unfold F_spec_l01Dec_j2
 have key : ∀ (m : Nat) (acc : List Int) (n : Nat), m ≤ L.length → m < n → acc = (L.drop m).reverse → iter (F_spec_l01Dec_l3 L) n ((m : Int) - 1, acc) = some (bytesI L.reverse) := by
  intro m
  induction m with
  | zero =>
   intro acc n _ hn ha
   obtain ⟨n, rfl⟩ : ∃ n', n = n' + 1 := ⟨n - 1, by omega⟩
   show F_spec_l01Dec_l3 L (iter (F_spec_l01Dec_l3 L) n) _ = _
   simp only [F_spec_l01Dec_l3]
   rw [decide_eq_false (by omega), bif_f, ha]
   rfl
  | succ m ih =>
   intro acc n hm hn ha
   obtain ⟨n, rfl⟩ : ∃ n', n = n' + 1 := ⟨n - 1, by omega⟩
   show F_spec_l01Dec_l3 L (iter (F_spec_l01Dec_l3 L) n) _ = _
   obtain ⟨x, hx⟩ := get_some (L := L) (n := m) (by omega)
   have e1 : ((m + 1 : Nat) : Int) - 1 = (m : Int) := by omega
   have hl : acc.length ≤ 1000 := by rw [ha]; simp; omega
   simp only [F_spec_l01Dec_l3, e1]
   rw [decide_eq_true (by omega), bif_t, ix_get hx, Option.bind_some, need_true (p := room (acc.length + [x].length) 1) (show room (acc.length + 1) 1 from ⟨by omega, by omega⟩), w64_id (by omega)]
   refine ih _ n (by omega) (by omega) ?_
   rw [ha, drop_cons hx]; simp
 have hw : w64 ((L.length : Int) - 1) = (L.length : Int) - 1 := w64_id (by omega)
 rw [hw]
 exact key L.length [] lim (Nat.le_refl _) (lt_lim (by omega)) (by simp)
theorem l01Dec_eq (n : Int) (h : -9223372036854775808 ≤ n ∧ n ≤ 9223372036854775807) : F_spec_l01Dec n = some (itoa n) := by
 unfold F_spec_l01Dec
 by_cases h0 : n = 0
 ·subst h0; rw [decide_eq_true rfl, bif_t]; unfold itoa; rw [if_neg (by omega), decDigits, dif_pos (by decide)]; rfl
 rw [decide_eq_false h0, bif_f]
 suffices H : ∃ r, loop (F_spec_l01Dec_l0 n) (n, []) = some r ∧ r = itoa n by
  obtain ⟨r, e, hr⟩ := H
  rw [e, hr]
 refine loop_mu (fun s => (-9223372036854775808 ≤ s.1 ∧ s.1 ≤ 9223372036854775807) ∧ (s.1 ≠ 0 → (s.1 < 0 ↔ n < 0)) ∧ s.1.natAbs * 10 ^ s.2.length ≤ n.natAbs ∧ s.2.length ≤ 19 ∧ dg0 n.natAbs = dg0 s.1.natAbs ++ bytesI s.2.reverse)
  (fun s => s.1.natAbs) ⟨h, fun _ => Iff.rfl, by simp, by simp, by simp [bytesI]⟩ (by show n.natAbs < lim; unfold lim; omega) ?_
 rintro ⟨v, L⟩ k ⟨hv, hsg, hp, hl, hd⟩ hk
 dsimp only at hv hsg hp hl hd hk
 simp only [F_spec_l01Dec_l0]
 by_cases hz : v = 0
 ·subst hz
  rw [decide_eq_false (by simp), bif_f]
  have hd' : decDigits n.natAbs = bytesI L.reverse := by
   have : dg0 n.natAbs = decDigits n.natAbs := if_neg (by omega)
   rw [← this, hd]; simp [dg0]
  by_cases hn : n < 0
  ·rw [decide_eq_true hn, bif_t, need_true (p := room (L.length + [(45 : Int)].length) 1) (show room (L.length + 1) 1 from ⟨by omega, by omega⟩), rev_loop _ (by simp; omega)]
   refine ⟨_, rfl, ?_⟩
   unfold itoa
   rw [if_pos hn, hd']
   simp [bytesI]
  ·rw [decide_eq_false hn, bif_f, rev_loop _ (by omega)]
   refine ⟨_, rfl, ?_⟩
   unfold itoa
   rw [if_neg hn, show n.toNat = n.natAbs by omega, hd']
 ·rw [decide_eq_true hz, bif_t]
  obtain ⟨q1, q2⟩ : Int.tdiv v 10 = (if v < 0 then -((-v) / 10) else v / 10) ∧ Int.tmod v 10 = (if v < 0 then -((-v) % 10) else v % 10) := by
   split
   ·rename_i hv
    obtain ⟨u, rfl⟩ : ∃ u : Int, v = -u := ⟨-v, by omega⟩
    rw [Int.neg_tdiv, Int.neg_tmod, Int.tdiv_eq_ediv_of_nonneg (by omega), Int.tmod_eq_emod_of_nonneg (by omega), Int.neg_neg]
    exact ⟨rfl, rfl⟩
   ·rw [Int.tdiv_eq_ediv_of_nonneg (by omega), Int.tmod_eq_emod_of_nonneg (by omega)]
    exact ⟨rfl, rfl⟩
  have ht : w64 (Int.tdiv v 10) = Int.tdiv v 10 := w64_id (by omega)
  have htn : (Int.tdiv v 10).natAbs = v.natAbs / 10 := by omega
  have hl2 : L.length + 1 ≤ 19 := by
   by_cases h19 : L.length = 19
   ·rw [h19] at hp
    have : 1 ≤ v.natAbs := by omega
    have h2 : 1 * 10 ^ 19 ≤ v.natAbs * 10 ^ 19 := Nat.mul_le_mul_right _ this
    have h3 : n.natAbs ≤ 9223372036854775808 := by omega
    omega
   ·omega
  have key : ∀ d : Int, d = (v.natAbs % 10 : Nat) → ∃ r, F_spec_l01Dec_j1 v L k d = some r ∧ r = itoa n := by
   rintro d rfl
   unfold F_spec_l01Dec_j1
   have e1 : IntKind.wrap .u8 (w64 (48 + ((v.natAbs % 10 : Nat) : Int))) = ((48 + v.natAbs % 10 : Nat) : Int) := by
    rw [w64_id (by omega)]
    simp only [IntKind.wrap, IntKind.signed, IntKind.bits]
    have : ((48 + ((v.natAbs % 10 : Nat) : Int)) % 2 ^ 8) = 48 + ((v.natAbs % 10 : Nat) : Int) := Int.emod_eq_of_lt (by omega) (by omega)
    simp [this]
    try omega
   rw [e1, ht, need_true (p := room (L.length + [((48 + v.natAbs % 10 : Nat) : Int)].length) 1) (show room (L.length + 1) 1 from ⟨by omega, by omega⟩)]
   refine hk _ ⟨?_, ?_, ?_, ?_, ?_⟩ ?_
   ·dsimp only; omega
   ·dsimp only; intro hne; have := hsg hz; rw [← this]; omega
   ·dsimp only
    rw [htn, List.length_append, List.length_singleton, Nat.pow_succ]
    refine Nat.le_trans ?_ hp
    rw [Nat.mul_comm (10 ^ L.length) 10, ← Nat.mul_assoc]
    exact Nat.mul_le_mul_right _ (Nat.div_mul_le_self _ _)
   ·simp; omega
   ·dsimp only
    rw [hd, htn, dg0_step (by omega : v.natAbs ≠ 0)]
    simp only [bytesI, List.reverse_append, List.reverse_singleton, List.singleton_append, List.map_cons, Int.toNat_natCast, List.append_assoc]
   ·dsimp only; rw [htn]; omega
  have hm : (Int.tmod v 10).natAbs = v.natAbs % 10 := by omega
  by_cases hneg : Int.tmod v 10 < 0
  ·rw [decide_eq_true hneg, bif_t]
   exact key _ (by rw [w64_id (by omega)]; omega)
  ·rw [decide_eq_false hneg, bif_f]
   exact key _ (by omega)
end Go.Ab
set_option linter.unusedVariables false
set_option linter.unusedSimpArgs false
namespace Go.Ab
open Go.RowKit
open Go.Lib (itoa decDigits join)
theorem tail_len (m : Nat) (sep : List UInt8) : ∀ L : List (List UInt8), (∀ x ∈ L, x.length ≤ m) → (Go.Lib.joinTail sep L).length ≤ L.length * (m + sep.length)
 | [], _ => by simp [Go.Lib.joinTail]
 | x :: L, h => by
  have ih := tail_len m sep L (fun y hy => h y (by simp [hy]))
  have hx := h x (by simp)
  simp only [Go.Lib.joinTail, List.map_cons, List.flatten_cons, List.length_append, List.length_cons, Nat.add_mul, Nat.one_mul] at ih ⊢
  omega
theorem join_len (m : Nat) (sep : List UInt8) (L : List (List UInt8)) (h : ∀ x ∈ L, x.length ≤ m) : (join L sep).length ≤ (L.length + 1) * (m + sep.length) := by
 cases L with
 | nil => simp [Go.Lib.join_nil]
 | cons x L =>
  have hx := h x (by simp)
  have := tail_len m sep L (fun y hy => h y (by simp [hy]))
  rw [Go.Lib.join_cons, List.length_append, List.length_cons]
  have e : (L.length + 1 + 1) * (m + sep.length) = L.length * (m + sep.length) + (m + sep.length) + (m + sep.length) := by simp only [Nat.add_mul, Nat.one_mul]
  omega
theorem join_snoc {L : List (List UInt8)} (h : L ≠ []) (x sep : List UInt8) : join (L ++ [x]) sep = (join L sep ++ sep) ++ x := by
 cases L with
 | nil => exact absurd rfl h
 | cons y L => simp [Go.Lib.join_cons, Go.Lib.joinTail, List.append_assoc]
theorem Decimal_eq {n : Int} (h : -9223372036854775808 ≤ n ∧ n ≤ 9223372036854775807) : F_impl_Decimal n = some (itoa n) := by
 unfold F_impl_Decimal F_formatInt
 rw [need_true ⟨by decide, h.1, h.2⟩]; rfl
theorem len_itoa {n : Int} (h : 0 ≤ n ∧ n ≤ 1000) : (itoa n).length ≤ 4 := by
 unfold itoa
 rw [if_neg (by omega)]
 exact dig_len 3 _ (by omega)
theorem ints_len {m : List Int} (hl : m.length ≤ 64) (h : ∀ x ∈ m, 0 ≤ x ∧ x ≤ 1000) (n : Nat) : (join ((m.take n).map itoa) [44]).length ≤ 1000 := by
 have := join_len 4 [44] ((m.take n).map itoa) (by
  intro y hy
  obtain ⟨x, hx, rfl⟩ := List.mem_map.1 hy
  exact len_itoa (h x (List.mem_of_mem_take hx)))
 rw [List.length_map, List.length_take] at this
 have h3 : (min n m.length + 1) * (4 + [(44 : UInt8)].length) ≤ 65 * 5 := Nat.mul_le_mul (by omega) (by decide)
 omega
def intsT (m : List Int) : List UInt8 := if m.length = 0 then [45] else join (m.map itoa) [44]
theorem l01List_eq {m : List Int} (hl : m.length ≤ 64) (h : ∀ x ∈ m, 0 ≤ x ∧ x ≤ 1000) : F_spec_l01List m = some (intsT m) := by
 unfold F_spec_l01List intsT
 by_cases h0 : m.length = 0
 ·rw [decide_eq_true (by omega), bif_t, if_pos h0]
 rw [decide_eq_false (by omega), bif_f, if_neg h0]
 suffices H : ∃ r, loop (F_spec_l01List_l0 m) ([], 0) = some r ∧ r = join (m.map itoa) [44] by
  obtain ⟨r, e, hr⟩ := H
  rw [e, hr]
 refine loop_ex (L := m) (fun i st => st.2 = (i : Int) ∧ st.1 = join ((m.take i).map itoa) [44]) (by omega) ⟨rfl, rfl⟩ ?_ ?_
 ·rintro i ⟨out, j⟩ k x hx hi ⟨rfl, hout⟩ hk
  dsimp only at hout
  subst hout
  have hb := ints_len hl h i
  have hxo := h x (get_mem hx)
  have h2 := len_itoa hxo
  have go : ∀ out : List UInt8, out.length ≤ 1001 → out ++ itoa x = join ((m.take (i + 1)).map itoa) [44] → ∃ r, F_spec_l01List_j1 m (i : Int) k out = some r ∧ r = join (m.map itoa) [44] := by
   intro out ho he
   unfold F_spec_l01List_j1
   simp only [ix_get hx, Option.bind_some, w64_succ hi]
   rw [l01Dec_eq _ (by omega), Option.bind_some, need_true (by omega)]
   exact hk _ ⟨rfl, he⟩
  simp only [F_spec_l01List_l0, int_lt (get_lt hx), bif_t]
  by_cases hi0 : i = 0
  ·subst hi0
   rw [show decide ((0 : Int) < ((0 : Nat) : Int)) = false from rfl, bif_f]
   refine go _ (by omega) ?_
   rw [take_succ hx]
   simp [Go.Lib.join_one, Go.Lib.join_nil]
  ·rw [decide_eq_true (by omega), bif_t, need_true (by rw [List.length_singleton]; omega)]
   refine go _ (by rw [List.length_append, List.length_singleton]; omega) ?_
   rw [take_succ hx, List.map_append, List.map_singleton, join_snoc]
   intro e
   have h1 := congrArg List.length e
   rw [List.length_map, List.length_take, List.length_nil] at h1
   have h2 := get_lt hx
   omega
 ·rintro ⟨out, j⟩ k ⟨rfl, hout⟩
  dsimp only at hout
  rw [take_all (Nat.le_refl _)] at hout
  simp only [F_spec_l01List_l0, int_lt_self, bif_f]
  exact ⟨_, rfl, hout⟩
theorem ListText_eq {m : List Int} (hl : m.length ≤ 64) (h : ∀ x ∈ m, 0 ≤ x ∧ x ≤ 1000) : F_impl_ListText m = some (intsT m) := by
 unfold F_impl_ListText intsT
 rw [decide_eq_false (by omega), bif_f]
 by_cases h0 : m.length = 0
 ·rw [decide_eq_true (by omega), bif_t, if_pos h0]
 rw [decide_eq_false (by omega), bif_f, if_neg h0, need_true (by omega)]
 suffices H : ∃ r, loop (F_impl_ListText_l0 m) (0, []) = some r ∧ r = join (m.map itoa) [44] by
  obtain ⟨r, e, hr⟩ := H
  exact e.trans (by rw [hr])
 refine loop_ex (L := m) (fun i st => st.1 = (i : Int) ∧ st.2 = (m.take i).map itoa) (by omega) ⟨rfl, rfl⟩ ?_ ?_
 ·rintro i ⟨j, out⟩ k x hx hi ⟨rfl, hout⟩ hk
  dsimp only at hout
  subst hout
  have hxo := h x (get_mem hx)
  have hr : room (((m.take i).map itoa).length + [itoa x].length) 16 := by
   rw [List.length_map, List.length_take]
   show room (min i m.length + 1) 16
   exact ⟨by omega, by omega⟩
  simp only [F_impl_ListText_l0, int_lt (get_lt hx), ix_get hx, Option.bind_some, bif_t, within_eq, w64_succ hi]
  rw [decide_eq_true (by omega), Bool.not_true, bif_f, Decimal_eq (by omega), Option.bind_some, need_true hr]
  exact hk _ ⟨rfl, by dsimp only; rw [take_succ hx, List.map_append]; rfl⟩
 ·rintro ⟨j, out⟩ k ⟨rfl, hout⟩
  dsimp only at hout
  rw [take_all (Nat.le_refl _)] at hout
  subst hout
  simp only [F_impl_ListText_l0, int_lt_self, bif_f]
  have := ints_len hl h m.length
  rw [take_all (Nat.le_refl _)] at this
  unfold F_join
  rw [need_true ⟨by rw [List.length_map]; omega, by omega⟩]
  exact ⟨_, rfl, rfl⟩
theorem room24' {n : Nat} (h : n ≤ 1000001) : room n 24 := ⟨by omega, by omega⟩
def cl (L : List TTurn) (i k : Nat) : List (List Int) := match L[i]?, L[k]? with
 | some a, some b => if a.1 = b.1 ∧ b.2.1 < w64 (a.2.1 + a.2.2) then [[(i : Int), (k : Int)]] else []
 | _, _ => []
def rowC (L : List TTurn) (i j : Nat) : List (List Int) := (List.range j).flatMap fun q => cl L i (i + 1 + q)
def allC (L : List TTurn) (m : Nat) : List (List Int) := (List.range m).flatMap fun i => rowC L i (L.length - (i + 1))
theorem cl_len (L : List TTurn) (i k : Nat) : (cl L i k).length ≤ 1 := by
 unfold cl
 split
 ·split <;> simp
 ·simp
theorem rowC_succ (L : List TTurn) (i j : Nat) : rowC L i (j + 1) = rowC L i j ++ cl L i (i + 1 + j) := by
 unfold rowC
 rw [List.range_succ, List.flatMap_append]; simp
theorem allC_succ (L : List TTurn) (m : Nat) : allC L (m + 1) = allC L m ++ rowC L m (L.length - (m + 1)) := by
 unfold allC
 rw [List.range_succ, List.flatMap_append]; simp
theorem rowC_len (L : List TTurn) (i : Nat) : ∀ j, (rowC L i j).length ≤ j
 | 0 => by simp [rowC]
 | j + 1 => by
  rw [rowC_succ, List.length_append]
  have := rowC_len L i j
  have := cl_len L i (i + 1 + j)
  omega
theorem allC_len (L : List TTurn) : ∀ m, (allC L m).length ≤ m * L.length
 | 0 => by simp [allC]
 | m + 1 => by
  rw [allC_succ, List.length_append, Nat.add_mul, Nat.one_mul]
  have := allC_len L m
  have := rowC_len L m (L.length - (m + 1))
  omega
theorem allC_in {L : List TTurn} {m : Nat} {q : List Int} (h : q ∈ allC L m) : ∃ i k : Nat, q = [(i : Int), (k : Int)] ∧ i < L.length ∧ k < L.length := by
 unfold allC rowC at h
 obtain ⟨i, _, h⟩ := List.mem_flatMap.1 h
 obtain ⟨j, _, h⟩ := List.mem_flatMap.1 h
 unfold cl at h
 split at h
 ·rename_i a b ha hb
  split at h
  ·exact ⟨i, _, List.mem_singleton.1 h, get_lt ha, get_lt hb⟩
  ·cases h
 ·cases h
theorem clash_loop {L : List TTurn} (hl : L.length ≤ 1000) {body2 : (Int × List (List Int) → Option (List (List Int) × Int)) → Int × List (List Int) → Option (List (List Int) × Int)}
  {body3 : Int → (Int × List (List Int) → Option (List (List Int) × Int)) → (Int × List (List Int) → Option (List (List Int) × Int)) → Int × List (List Int) → Option (List (List Int) × Int)}
  (h2 : ∀ (i : Nat) a acc k6, L[i]? = some a → body2 k6 ((i : Int), acc) = loop (body3 (i : Int) k6) (((i + 1 : Nat) : Int), acc))
  (e2 : ∀ acc k, body2 k ((L.length : Int), acc) = some (acc, 0))
  (h3 : ∀ (i k : Nat) a b acc k6 k7, L[i]? = some a → L[k]? = some b → acc.length ≤ 1000000 → body3 (i : Int) k6 k7 ((k : Int), acc) = k7 (((k + 1 : Nat) : Int), acc ++ cl L i k))
  (e3 : ∀ (i : Nat) acc k6 k7, i < L.length → body3 (i : Int) k6 k7 ((L.length : Int), acc) = k6 (((i + 1 : Nat) : Int), acc)) : loop body2 (0, []) = some (allC L L.length, 0) := by
 suffices H : ∃ r, loop body2 (0, []) = some r ∧ r = (allC L L.length, (0 : Int)) by
  obtain ⟨r, e, hr⟩ := H
  rw [e, hr]
 refine loop_ex (L := L) (fun i s => s.1 = (i : Int) ∧ s.2 = allC L i) (by omega) ⟨rfl, by simp [allC]⟩ ?_ ?_
 ·rintro i ⟨_, acc⟩ K a ha hi ⟨rfl, hacc⟩ hK
  dsimp only at hacc
  have hlt := get_lt ha
  rw [h2 i a acc K ha]
  refine loop_ex (L := List.range (L.length - (i + 1))) (fun j s => s.1 = ((i + 1 + j : Nat) : Int) ∧ s.2 = allC L i ++ rowC L i j) (by rw [List.length_range]; omega) ⟨rfl, by simp [rowC, hacc]⟩ ?_ ?_
  ·rintro j ⟨_, ac⟩ K7 x hx hj ⟨rfl, hac⟩ hK7
   dsimp only at hac
   have hjl := get_lt hx
   rw [List.length_range] at hjl
   obtain ⟨b, hb⟩ := get_some (L := L) (n := i + 1 + j) (by omega)
   have h1 := allC_len L i
   have h4 := rowC_len L i j
   have h5 : i * L.length ≤ 999 * 1000 := Nat.mul_le_mul (by omega) hl
   rw [h3 i (i + 1 + j) a b ac K K7 ha hb (by rw [hac, List.length_append]; omega)]
   exact hK7 _ ⟨rfl, by dsimp only; rw [hac, rowC_succ, List.append_assoc]⟩
  ·rintro ⟨_, ac⟩ K7 ⟨rfl, hac⟩
   dsimp only at hac
   rw [List.length_range] at hac ⊢
   have e : i + 1 + (L.length - (i + 1)) = L.length := by omega
   rw [e, e3 i ac K K7 hlt]
   exact hK _ ⟨rfl, by dsimp only; rw [hac, allC_succ]⟩
 ·rintro ⟨_, acc⟩ K ⟨rfl, hacc⟩
  dsimp only at hacc
  rw [e2]
  exact ⟨_, rfl, by rw [hacc]⟩
theorem cl_some {L : List TTurn} {i k : Nat} {a b : TTurn} (ha : L[i]? = some a) (hb : L[k]? = some b) : cl L i k = if a.1 = b.1 ∧ b.2.1 < w64 (a.2.1 + a.2.2) then [[(i : Int), (k : Int)]] else [] := by
 unfold cl; rw [ha, hb]
theorem sClash {L : List TTurn} (hl : L.length ≤ 1000) (o : (OkL OkTurn) L) (hT : turnsOk L = true) : F_spec_ClashesOf L = some (allC L L.length, 0) := by
 unfold F_spec_ClashesOf
 rw [l23Ok_eq o, hT, Option.bind_some, Bool.not_true, bif_f]
 refine clash_loop (body3 := F_spec_ClashesOf_l3 L) hl ?_ ?_ ?_ ?_
 ·intro i a acc k6 ha
  simp only [F_spec_ClashesOf_l2, int_lt (get_lt ha), bif_t, w64_succ (show i < 9223372036854775807 by have := get_lt ha; omega)]
 ·intro acc k; simp only [F_spec_ClashesOf_l2, int_lt_self, bif_f]
 ·intro i k a b acc k6 k7 ha hb hac
  have hr : room (acc.length + [[(i : Int), (k : Int)]].length) 24 := room24' (by simp only [List.length_singleton]; omega)
  simp only [F_spec_ClashesOf_l3, int_lt (get_lt hb), bif_t, ix_get ha, ix_get hb, Option.bind_some, need_true hr, bif_dec, w64_succ (show k < 9223372036854775807 by have := get_lt hb; omega), cl_some ha hb]
  by_cases h1 : a.1 = b.1
  ·rw [if_pos h1]
   by_cases h2 : b.2.1 < w64 (a.2.1 + a.2.2)
   ·rw [if_pos h2, if_pos ⟨h1, h2⟩]
   ·rw [if_neg h2, if_neg (fun h => h2 h.2), List.append_nil]
  ·rw [if_neg h1, if_neg (fun h => h1 h.1), List.append_nil]
 ·intro i acc k6 k7 hi; simp only [F_spec_ClashesOf_l3, int_lt_self, bif_f, w64_succ (show i < 9223372036854775807 by omega)]
theorem iClash {L : List TTurn} (hl : L.length ≤ 1000) (o : (OkL OkTurn) L) (hT : turnsOk L = true) : F_impl_ClashesOf L = some (allC L L.length, 0) := by
 unfold F_impl_ClashesOf
 rw [ValidTurns_eq o, hT, Option.bind_some, Bool.not_true, bif_f]
 refine clash_loop (body3 := fun i => F_impl_ClashesOf_l3 L (L[i.toNat]?.getD ([], 0, 0)) i) hl ?_ ?_ ?_ ?_
 ·intro i a acc k6 ha
  simp only [F_impl_ClashesOf_l2, int_lt (get_lt ha), bif_t, ix_get ha, Option.bind_some, w64_succ (show i < 9223372036854775807 by have := get_lt ha; omega), Int.toNat_natCast, ha, Option.getD_some]
 ·intro acc k; simp only [F_impl_ClashesOf_l2, int_lt_self, bif_f]
 ·intro i k a b acc k6 k7 ha hb hac
  have hr : room (acc.length + [[(i : Int), (k : Int)]].length) 24 := room24' (by simp only [List.length_singleton]; omega)
  simp only [F_impl_ClashesOf_l3, F_impl_Turn_end, int_lt (get_lt hb), bif_t, ix_get hb, Option.bind_some, need_true hr, bif_dec, w64_succ (show k < 9223372036854775807 by have := get_lt hb; omega), cl_some ha hb, Int.toNat_natCast, ha, Option.getD_some]
  by_cases h1 : a.1 = b.1
  ·rw [if_pos h1]
   by_cases h2 : b.2.1 < w64 (a.2.1 + a.2.2)
   ·rw [if_pos h2, if_pos ⟨h1, h2⟩]
   ·rw [if_neg h2, if_neg (fun h => h2 h.2), List.append_nil]
  ·rw [if_neg h1, if_neg (fun h => h1 h.1), List.append_nil]
 ·intro i acc k6 k7 hi; simp only [F_impl_ClashesOf_l3, int_lt_self, bif_f, w64_succ (show i < 9223372036854775807 by omega)]
def pProb (L : List TTurn) (q : List Int) : TProblem := match q[0]? with
 | some n => match L[n.toNat]? with
  | some t => (5, t.1, intsT q)
  | none => (5, [], intsT q)
 | none => (5, [], intsT q)
theorem prob_loop {L : List TTurn} (hl : L.length ≤ 100) {body : (Int × List TProblem → Option (List TProblem)) → Int × List TProblem → Option (List TProblem)}
  (more : ∀ (i x y : Nat) t acc k, (allC L L.length)[i]? = some [(x : Int), (y : Int)] → L[x]? = some t → y < L.length → acc.length ≤ 100000 → body k ((i : Int), acc) = k (((i + 1 : Nat) : Int), acc ++ [(5, t.1, intsT [(x : Int), (y : Int)])]))
  (done : ∀ acc k, body k (((allC L L.length).length : Int), acc) = some acc) : loop body (0, []) = some ((allC L L.length).map (pProb L)) := by
 have hA := allC_len L L.length
 have hB : L.length * L.length ≤ 100 * 100 := Nat.mul_le_mul hl hl
 suffices H : ∃ r, loop body (0, []) = some r ∧ r = (allC L L.length).map (pProb L) by
  obtain ⟨r, e, hr⟩ := H
  rw [e, hr]
 refine loop_ex (L := allC L L.length) (fun i st => st.1 = (i : Int) ∧ st.2 = ((allC L L.length).take i).map (pProb L)) (by omega) ⟨rfl, rfl⟩ ?_ ?_
 ·rintro i ⟨_, acc⟩ k q hq hi ⟨rfl, hacc⟩ hk
  dsimp only at hacc
  obtain ⟨x, y, rfl, hx, hy⟩ := allC_in (get_mem hq)
  obtain ⟨t, ht⟩ := get_some hx
  have hp : pProb L [(x : Int), (y : Int)] = (5, t.1, intsT [(x : Int), (y : Int)]) := by
   simp [pProb, ht]
  rw [more i x y t acc k hq ht hy (by rw [hacc, List.length_map, List.length_take]; omega)]
  refine hk _ ⟨rfl, ?_⟩
  dsimp only
  rw [take_succ hq, List.map_append, hacc, List.map_singleton, hp]
 ·rintro ⟨_, acc⟩ k ⟨rfl, hacc⟩
  dsimp only at hacc
  rw [take_all (Nat.le_refl _)] at hacc
  rw [done]
  exact ⟨_, rfl, hacc⟩
theorem core_PlayerProblems (w : TWork) (o : OkWork w) (s : SmWork w) : ∃ r, F_spec_PlayerProblems w = some r ∧ F_impl_PlayerProblems w = some r ∧ (SmL CtProblem) r.1 := by
 obtain ⟨b, e1, e2, hg⟩ := work_ex w o
 obtain ⟨_, _, _, _, _, _, _, _, _, _, oU⟩ := o
 unfold F_spec_PlayerProblems F_spec_l31Part F_impl_PlayerProblems F_impl_findProblems
 rw [e1, e2, Option.bind_some, Option.bind_some]
 cases b
 ·exact ⟨([], 1), rfl, rfl, by show ((0 : Nat) : Int) ≤ 1048576; omega, fun a ha => by cases ha⟩
 have hT := (hg rfl).turns
 have hlen : w.2.2.2.2.2.2.2.2.2.2.2.2.2.2.2.2.2.length ≤ 24 := by
  unfold turnsOk at hT
  rw [Bool.and_eq_true] at hT
  have := of_decide_eq_true hT.2
  omega
 have hsm : ∀ {x y : Nat}, x < w.2.2.2.2.2.2.2.2.2.2.2.2.2.2.2.2.2.length → y < w.2.2.2.2.2.2.2.2.2.2.2.2.2.2.2.2.2.length → ∀ z ∈ [(x : Int), (y : Int)], 0 ≤ z ∧ z ≤ 1000 := by
  intro x y hx hy z hz
  simp only [List.mem_cons, List.not_mem_nil, or_false] at hz
  rcases hz with rfl | rfl <;> omega
 have hrm : ∀ {acc : List TProblem} {p : TProblem}, acc.length ≤ 100000 → room (acc.length + ([p] : List TProblem).length) 40 := fun h => ⟨by simp only [List.length_singleton]; omega, by simp only [List.length_singleton]; omega⟩
 have k1 : F_spec_l31Players w = some ((allC w.2.2.2.2.2.2.2.2.2.2.2.2.2.2.2.2.2 w.2.2.2.2.2.2.2.2.2.2.2.2.2.2.2.2.2.length).map (pProb w.2.2.2.2.2.2.2.2.2.2.2.2.2.2.2.2.2)) := by
  unfold F_spec_l31Players
  rw [sClash (by omega) oU hT, Option.bind_some]
  refine prob_loop (by omega) ?_ ?_
  ·intro i x y t acc k hq ht hy hac
   have i0 : ix [(x : Int), (y : Int)] 0 = some (x : Int) := rfl
   simp only [F_spec_l31Players_l0, int_lt (get_lt hq), bif_t, ix_get hq, Option.bind_some, i0, ix_get ht, l01List_eq (m := [(x : Int), (y : Int)]) (by simp) (hsm (get_lt ht) hy), need_true (hrm hac), w64_succ (show i < 9223372036854775807 by
    have := get_lt hq
    have := allC_len w.2.2.2.2.2.2.2.2.2.2.2.2.2.2.2.2.2 w.2.2.2.2.2.2.2.2.2.2.2.2.2.2.2.2.2.length
    have := Nat.mul_le_mul hlen hlen
    omega)]
  ·intro acc k; simp only [F_spec_l31Players_l0, int_lt_self, bif_f]
 have k2 : F_impl_playerProblems w = some ((allC w.2.2.2.2.2.2.2.2.2.2.2.2.2.2.2.2.2 w.2.2.2.2.2.2.2.2.2.2.2.2.2.2.2.2.2.length).map (pProb w.2.2.2.2.2.2.2.2.2.2.2.2.2.2.2.2.2)) := by
  unfold F_impl_playerProblems
  rw [iClash (by omega) oU hT, Option.bind_some]
  refine prob_loop (by omega) ?_ ?_
  ·intro i x y t acc k hq ht hy hac
   have i0 : ix [(x : Int), (y : Int)] 0 = some (x : Int) := rfl
   simp only [F_impl_playerProblems_l0, int_lt (get_lt hq), bif_t, ix_get hq, Option.bind_some, i0, ix_get ht, ListText_eq (m := [(x : Int), (y : Int)]) (by simp) (hsm (get_lt ht) hy), need_true (hrm hac), w64_succ (show i < 9223372036854775807 by
    have := get_lt hq
    have := allC_len w.2.2.2.2.2.2.2.2.2.2.2.2.2.2.2.2.2 w.2.2.2.2.2.2.2.2.2.2.2.2.2.2.2.2.2.length
    have := Nat.mul_le_mul hlen hlen
    omega)]
  ·intro acc k; simp only [F_impl_playerProblems_l0, int_lt_self, bif_f]
 have hQ : ((allC w.2.2.2.2.2.2.2.2.2.2.2.2.2.2.2.2.2 w.2.2.2.2.2.2.2.2.2.2.2.2.2.2.2.2.2.length).map (pProb w.2.2.2.2.2.2.2.2.2.2.2.2.2.2.2.2.2)).length ≤ 1000 := by
  rw [List.length_map]
  have := allC_len w.2.2.2.2.2.2.2.2.2.2.2.2.2.2.2.2.2 w.2.2.2.2.2.2.2.2.2.2.2.2.2.2.2.2.2.length
  have := Nat.mul_le_mul hlen hlen
  omega
 generalize (allC w.2.2.2.2.2.2.2.2.2.2.2.2.2.2.2.2.2 w.2.2.2.2.2.2.2.2.2.2.2.2.2.2.2.2.2.length).map (pProb w.2.2.2.2.2.2.2.2.2.2.2.2.2.2.2.2.2) = Q at *
 have hl : loop (F_impl_findProblems_l0 w [()]) (0, []) = some (Q, 0) := by
  suffices H : ∃ r, loop (F_impl_findProblems_l0 w [()]) (0, []) = some r ∧ r = (Q, (0 : Int)) by
   obtain ⟨r, e, hr⟩ := H
   rw [e, hr]
  refine loop_ex (L := [()]) (fun i st => st.1 = (i : Int) ∧ st.2 = if i = 0 then [] else Q) (by simp) ⟨rfl, rfl⟩ ?_ ?_
  ·rintro i ⟨_, acc⟩ k x hx hi ⟨rfl, hacc⟩ hk
   dsimp only at hacc
   have hi0 : i = 0 := by have := get_lt hx; simp at this; exact this
   subst hi0
   rw [if_pos rfl] at hacc
   subst hacc
   simp only [F_impl_findProblems_l0, int_lt (get_lt hx), bif_t, ix_get hx, Option.bind_some, k2, w64_succ hi]
   rw [need_true (show room (([] : List TProblem).length + Q.length) 40 from ⟨by simp; omega, by simp; omega⟩)]
   exact hk _ ⟨rfl, by simp⟩
  ·rintro ⟨_, acc⟩ k ⟨rfl, hacc⟩
   dsimp only at hacc
   rw [if_neg (by simp)] at hacc
   subst hacc
   simp only [F_impl_findProblems_l0, int_lt_self, bif_f]
   exact ⟨_, rfl, rfl⟩
 rw [Bool.not_true, bif_f, bif_f, k1, hl]
 refine ⟨(Q, 0), rfl, rfl, ?_, fun _ _ => ⟨trivial, trivial, trivial⟩⟩
 show (Q.length : Int) ≤ 1048576
 omega
end Go.Ab
