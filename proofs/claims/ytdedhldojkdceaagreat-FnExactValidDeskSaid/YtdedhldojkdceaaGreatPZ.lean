import Derived.Test.YtdedhldojkdceaaGreatPL
import Derived.Test.YtdedhldojkdceaaGreatPS
import Derived.Sort.Walk0
namespace Go.Ab
abbrev Str := List UInt8
end Go.Ab
set_option linter.unusedVariables false
set_option linter.unusedSimpArgs false
namespace Go.Ab
open Go.RowKit
def nb (b : UInt8) : Bool := decide ((97 ≤ b.toNat ∧ b.toNat ≤ 122) ∨ (48 ≤ b.toNat ∧ b.toNat ≤ 57))
def lowHead : List UInt8 → Bool
 | [] => false
 | b :: _ => decide (97 ≤ b.toNat ∧ b.toNat ≤ 122)
def nameOk (s : List UInt8) : Bool := decide (s.length ≤ 10) && (lowHead s && s.all nb)
theorem l01Small_eq (c : Int) : F_spec_l01Small c = some (decide (97 ≤ c ∧ c ≤ 122)) := by
 unfold F_spec_l01Small
 by_cases h : 97 ≤ c <;> simp [h]
theorem l01Digit_eq (c : Int) : F_spec_l01Digit c = some (decide (48 ≤ c ∧ c ≤ 57)) := by
 unfold F_spec_l01Digit
 by_cases h : 48 ≤ c <;> simp [h]
theorem l01Name_eq (s : List UInt8) (hs : s.length ≤ 9223372036854775807) : F_spec_l01Name s = some (nameOk s) := by
 unfold F_spec_l01Name
 cases s with
 | nil => rfl
 | cons b t =>
  have e : loop (F_spec_l01Name_l0 (b :: t)) 0 = some ((b :: t).all nb) := by
   refine loop_all nb hs ?_ ?_
   ·intro i k a ha hi
    simp only [F_spec_l01Name_l0, int_lt (get_lt ha), ix_get ha, Option.bind_some, bif_t, l01Small_eq, l01Digit_eq, w64_succ hi, ← decide_not, bif_dec, nb]
    repeat' split
    all_goals first | rfl | (exfalso; omega)
   ·intro k; simp [F_spec_l01Name_l0]
  rw [e]
  simp only [reduceCtorEq, decide_false, bif_f, ix_zero, Option.bind_some, l01Small_eq, ← decide_not, bif_dec, nameOk, lowHead]
  split
  ·rename_i h; rw [decide_eq_false (by omega)]; rfl
  ·rename_i h
   rw [decide_eq_true (by omega)]
   split
   ·rename_i h2; rw [decide_eq_false (by omega)]; rfl
   ·rename_i h2; rw [decide_eq_true (by omega)]; rfl
theorem onlyNameBytes_eq (s : List UInt8) (hs : s.length ≤ 9223372036854775807) : F_impl_onlyNameBytes s = some (s.all nb) := by
 unfold F_impl_onlyNameBytes
 refine loop_all nb hs ?_ ?_
 ·intro i k a ha hi
  simp only [F_impl_onlyNameBytes_l0, int_lt (get_lt ha), ix_get ha, Option.bind_some, bif_t, w64_succ hi, bif_dec, nb]
  repeat' split
  all_goals first | rfl | (exfalso; omega)
 ·intro k; simp [F_impl_onlyNameBytes_l0]
theorem IsName_eq (s : List UInt8) (hs : s.length ≤ 9223372036854775807) : F_impl_IsName s = some (nameOk s) := by
 unfold F_impl_IsName
 rw [onlyNameBytes_eq s hs]
 cases s with
 | nil => rfl
 | cons b t =>
  simp only [ix_zero, Option.bind_some, bif_dec, nameOk, lowHead]
  split
  ·rename_i h; simp at h; omega
  ·split
   ·rename_i h; rw [decide_eq_false (by omega)]; rfl
   ·rename_i h
    rw [decide_eq_true (by omega)]
    split
    ·rename_i h2; rw [decide_eq_false (by omega)]; rfl
    ·split
     ·rename_i h2; rw [decide_eq_false (by omega)]; rfl
     ·rw [decide_eq_true (by omega)]; rfl
end Go.Ab
set_option linter.unusedVariables false
set_option linter.unusedSimpArgs false
namespace Go.Ab
open Go.RowKit
section
variable {α : Type}
def adj (one : α → Bool) (bef : α → α → Bool) : Option α → List α → Bool
 | _, [] => true
 | none, x :: t => one x && adj one bef (some x) t
 | some q, x :: t => one x && (bef q x && adj one bef (some x) t)
def prevA (A : List α) : Nat → Option α
 | 0 => none
 | n + 1 => A[n]?
theorem loop_adj {A : List α} {one : α → Bool} {bef : α → α → Bool} {fin : Bool} {body : (Int → Option Bool) → Int → Option Bool} (hA : A.length ≤ 9223372036854775807)
  (first : ∀ k a, A[0]? = some a → body k 0 = bif one a then k 1 else some false)
  (more : ∀ (i : Nat) k q a, A[i]? = some q → A[i + 1]? = some a → i + 1 < 9223372036854775807 → body k ((i + 1 : Nat) : Int) = bif one a then (bif bef q a then k ((i + 2 : Nat) : Int) else some false) else some false)
  (done : ∀ k, body k (A.length : Int) = some fin) : loop body 0 = some (adj one bef none A && fin) := by
 have := loop_at (L := A) (body := body) (fun i => adj one bef (prevA A i) (A.drop i) && fin) hA ?_ ?_
 ·exact this
 ·intro i k a ha hi hk
  rw [drop_cons ha]
  cases i with
  | zero =>
   have h1 := first k a ha
   have hp : prevA A 1 = some a := ha
   rw [hp] at hk
   show body k 0 = _
   rw [h1]
   simp only [prevA, adj]
   cases one a
   ·rfl
   ·exact hk
  | succ n =>
   obtain ⟨q, hq⟩ := get_some (L := A) (n := n) (by have := get_lt ha; omega)
   have h1 := more n k q a hq ha hi
   have hp : prevA A (n + 1 + 1) = some a := ha
   rw [hp] at hk
   rw [h1]
   simp only [prevA, hq, adj]
   cases one a
   ·rfl
   ·cases bef q a
    ·rfl
    ·exact hk
 ·intro k
  rw [done, List.drop_length]
  cases prevA A A.length <;> simp [adj]
end
theorem adj_all {α : Type} {one : α → Bool} {bef : α → α → Bool} : ∀ {A : List α} {p : Option α}, adj one bef p A = true → (∀ x ∈ A, one x = true) ∧ (∀ (i : Nat) x y, A[i]? = some x → A[i + 1]? = some y → bef x y = true)
 | [], p, h => by simp
 | a :: A, p, h => by
  have h2 : one a = true ∧ adj one bef (some a) A = true := by
   cases p with
   | none => simpa [adj] using h
   | some q => simp [adj] at h; exact ⟨h.1, h.2.2⟩
  obtain ⟨k1, k2⟩ := adj_all (A := A) h2.2
  refine ⟨fun x hx => ?_, fun i x y hx hy => ?_⟩
  ·rcases List.mem_cons.1 hx with h | h
   ·rw [h]; exact h2.1
   ·exact k1 x h
  ·cases i with
   | zero =>
    simp at hx hy; subst hx
    cases A with
    | nil => simp at hy
    | cons b A =>
     simp at hy; subst hy
     have := h2.2
     simp [adj] at this; exact this.2.1
   | succ i => simp at hx hy; exact k2 i x y hx hy
end Go.Ab
set_option linter.unusedVariables false
set_option linter.unusedSimpArgs false
namespace Go.Ab
open Go.RowKit
theorem l00In_eq (a b c : Int) : F_spec_l00In a b c = some (decide (b ≤ a ∧ a ≤ c)) := by
 unfold F_spec_l00In
 by_cases h : b ≤ a <;> simp [h]
theorem within_eq (a b c : Int) : F_impl_within a b c = some (decide (b ≤ a ∧ a ≤ c)) := by
 unfold F_impl_within
 by_cases h : b ≤ a <;> simp [h]
end Go.Ab
set_option linter.unusedVariables false
set_option linter.unusedSimpArgs false
namespace Go.Ab
open Go.RowKit
def srtS (L : List Str) : Prop := List.Pairwise (fun x y : Str => x < y) L
theorem lt_ne {x y : Str} (h : x < y) : x ≠ y := fun e => by subst e; exact List.lt_irrefl _ h
theorem lt_of_le {x y : Str} (h : ¬ y < x) (hn : y ≠ x) : x < y := by
 rcases List.le_total x y with h1 | h1
 ·refine Classical.byContradiction fun h2 => hn ?_
  exact List.le_antisymm (List.not_lt.1 h2) (List.not_lt.1 h)
 ·refine Classical.byContradiction fun h2 => hn ?_
  exact List.le_antisymm h1 (List.not_lt.1 h)
theorem srt_uniq {L M : List Str} (hL : srtS L) (hM : srtS M) (h : ∀ x, x ∈ L ↔ x ∈ M) : L = M := by
 have hp : L.Perm M := (List.perm_ext_iff_of_nodup (hL.imp fun h => lt_ne h) (hM.imp fun h => lt_ne h)).2 h
 exact List.Perm.eq_of_pairwise (le := fun x y => x < y) (fun a b _ _ h1 h2 => absurd (List.lt_trans h1 h2) (List.lt_irrefl _)) hL hM hp
theorem srt_snoc {L : List Str} {x : Str} (h : srtS L) (hx : ∀ y ∈ L, y < x) : srtS (L ++ [x]) := by
 unfold srtS
 rw [List.pairwise_append]
 exact ⟨h, by simp, fun a ha b hb => by rw [List.mem_singleton.1 hb]; exact hx a ha⟩
theorem less_eq (x y : Str) : Op.bytesLess x y = decide (x < y) := Go.Proofs.bytesLess_eq x y
theorem put_ex {L : List Str} (hL : srtS L) (x : Str) (hl : L.length ≤ 1000000) : ∃ R, F_spec_l28Put L x = some R ∧ srtS R ∧ ∀ y, y ∈ R ↔ y ∈ L ∨ y = x := by
 unfold F_spec_l28Put
 refine loop_ex (L := L) (fun i s => s.2.1 = (i : Int) ∧ srtS s.2.2 ∧ s.2.2.length ≤ i + 1 ∧ (s.1 = false → s.2.2 = L.take i ∧ ∀ y ∈ L.take i, y < x) ∧ (s.1 = true → (∀ y, y ∈ s.2.2 ↔ y ∈ L.take i ∨ y = x) ∧ ∀ y ∈ L.drop i, x < y)) (by omega) ⟨rfl, List.Pairwise.nil, by simp, fun _ => by simp, fun h => by cases h⟩ ?_ ?_
 ·rintro i ⟨b, _, O⟩ K a ha hi ⟨rfl, h1, h2, h3, h4⟩ hK
  dsimp only at h1 h2 h3 h4
  have hlt := get_lt ha
  have hal : ∀ y ∈ L.take i, y < a := by
   intro y hy
   obtain ⟨j, hj⟩ := List.mem_iff_getElem?.1 hy
   rw [List.getElem?_take] at hj
   split at hj
   ·rename_i hji
    have hjl := get_lt hj
    have := List.pairwise_iff_getElem.1 hL j i hjl hlt hji
    rw [List.getElem?_eq_getElem hjl] at hj
    rw [List.getElem?_eq_getElem hlt] at ha
    cases hj; cases ha; exact this
   ·cases hj
  have had : ∀ y ∈ L.drop (i + 1), a < y := by
   intro y hy
   obtain ⟨j, hj⟩ := List.mem_iff_getElem?.1 hy
   rw [List.getElem?_drop] at hj
   have hjl := get_lt hj
   have := List.pairwise_iff_getElem.1 hL i (i + 1 + j) hlt hjl (by omega)
   rw [List.getElem?_eq_getElem hjl] at hj
   rw [List.getElem?_eq_getElem hlt] at ha
   cases hj; cases ha; exact this
  have hr1 : room (O.length + [x].length) 16 := by constructor <;> simp only [List.length_singleton] <;> omega
  have hr2 : ∀ O' : List Str, O'.length ≤ O.length + 1 → room (O'.length + [a].length) 16 := fun O' h => by constructor <;> simp only [List.length_singleton] <;> omega
  have hr3 : room (O.length + [a].length) 16 := hr2 O (by omega)
  have ha2 := ix_get ha
  simp only [F_spec_l28Put_l0, int_lt hlt, bif_t, ha2, Option.bind_some]
  have hmem : ∀ y, y ∈ L.take (i + 1) ↔ y ∈ L.take i ∨ y = a := fun y => by rw [take_succ ha, List.mem_append, List.mem_singleton]
  cases b with
  | false =>
   obtain ⟨rfl, h5⟩ := h3 rfl
   simp only [Bool.not_false, bif_t, less_eq]
   by_cases hx : a < x
   ·rw [decide_eq_true hx]
    simp only [Bool.not_true, bif_f, F_spec_l28Put_j1, ha2, Option.bind_some, decide_eq_true (lt_ne hx), bif_t]
    rw [need_true hr3, w64_succ hi]
    refine hK _ ⟨rfl, srt_snoc h1 hal, by simp only [List.length_append, List.length_singleton]; omega, fun _ => ⟨(take_succ ha).symm, fun y hy => ?_⟩, fun h => by cases h⟩
    rcases (hmem y).1 hy with h | h
    ·exact h5 y h
    ·rw [h]; exact hx
   ·rw [decide_eq_false hx]
    simp only [Bool.not_false, bif_t]
    rw [need_true hr1]
    simp only [F_spec_l28Put_j1, ha2, Option.bind_some]
    by_cases he : a = x
    ·rw [decide_eq_false (by simpa using he), bif_f, w64_succ hi]
     refine hK _ ⟨rfl, srt_snoc h1 h5, by simp only [List.length_append, List.length_singleton]; omega, fun h => by (simp at h), fun _ => ⟨fun y => ?_, ?_⟩⟩
     ·rw [hmem, List.mem_append, List.mem_singleton, he]
      constructor
      ·rintro (h | h)
       ·exact .inl (.inl h)
       ·exact .inr h
      ·rintro ((h | h) | h)
       ·exact .inl h
       ·exact .inr h
       ·exact .inr h
     ·rw [← he]; exact had
    ·have hxa : x < a := lt_of_le hx he
     rw [decide_eq_true he, bif_t, need_true (hr2 _ (by simp only [List.length_append, List.length_singleton]; omega)), w64_succ hi]
     refine hK _ ⟨rfl, srt_snoc (srt_snoc h1 h5) ?_, ?_, fun h => by (simp at h), fun _ => ⟨fun y => ?_, fun y hy => List.lt_trans hxa (had y hy)⟩⟩
     ·intro y hy
      rcases List.mem_append.1 hy with h | h
      ·exact hal y h
      ·rw [List.mem_singleton.1 h]; exact hxa
     ·have : (L.take i).length ≤ i := by rw [List.length_take]; omega
      simp only [List.length_append, List.length_singleton]; omega
     ·rw [hmem, List.mem_append, List.mem_append, List.mem_singleton, List.mem_singleton]
      constructor
      ·rintro ((h | h) | h)
       ·exact .inl (.inl h)
       ·exact .inr h
       ·exact .inl (.inr h)
      ·rintro ((h | h) | h)
       ·exact .inl (.inl h)
       ·exact .inr h
       ·exact .inl (.inr h)
  | true =>
   obtain ⟨h5, h6⟩ := h4 rfl
   have hxa : x < a := h6 a (by rw [drop_cons ha]; exact List.mem_cons_self)
   simp only [Bool.not_true, bif_f, F_spec_l28Put_j1, ha2, Option.bind_some]
   rw [decide_eq_true (show a ≠ x from fun e => lt_ne hxa e.symm), bif_t, need_true hr3, w64_succ hi]
   refine hK (true, ((i + 1 : Nat) : Int), O ++ [a]) ⟨rfl, srt_snoc h1 ?_, by simp only [List.length_append, List.length_singleton]; omega, fun h => by (simp at h), fun _ => ⟨fun y => ?_, fun y hy => List.lt_trans hxa (had y hy)⟩⟩
   ·intro y hy
    rcases (h5 y).1 hy with h | h
    ·exact hal y h
    ·rw [h]; exact hxa
   ·rw [hmem, List.mem_append, List.mem_singleton, h5]
    constructor
    ·rintro ((h | h) | h)
     ·exact .inl (.inl h)
     ·exact .inr h
     ·exact .inl (.inr h)
    ·rintro ((h | h) | h)
     ·exact .inl (.inl h)
     ·exact .inr h
     ·exact .inl (.inr h)
 ·rintro ⟨b, _, O⟩ K ⟨rfl, h1, h2, h3, h4⟩
  dsimp only at h1 h2 h3 h4
  have hr1 : room (O.length + [x].length) 16 := by constructor <;> simp only [List.length_singleton] <;> omega
  simp only [F_spec_l28Put_l0, int_lt_self, bif_f]
  rw [take_all (Nat.le_refl _)] at h3 h4
  cases b with
  | false =>
   obtain ⟨rfl, h5⟩ := h3 rfl
   simp only [Bool.not_false, bif_t]
   rw [need_true hr1]
   exact ⟨_, rfl, srt_snoc h1 h5, fun y => by rw [List.mem_append, List.mem_singleton]⟩
  | true =>
   simp only [Bool.not_true, bif_f]
   exact ⟨_, rfl, h1, (h4 rfl).1⟩
theorem arr_at {S : List Str} {m : Nat} {a : Str} (h : S[m]? = some a) : S.toArray[m]! = a := by
 have hl := get_lt h
 rw [List.getElem?_eq_getElem hl] at h
 cases h
 simp [hl]
theorem compact_srt {S : List Str} (hS : List.Pairwise (fun x y : Str => x ≤ y) S) : ∀ m, m ≤ S.length → srtS (Go.Lib.compactUpTo S.toArray m) ∧ (∀ y, y ∈ Go.Lib.compactUpTo S.toArray m ↔ y ∈ S.take m)
 | 0, _ => ⟨List.Pairwise.nil, fun y => by simp [Go.Lib.compactUpTo]⟩
 | m + 1, hm => by
  obtain ⟨h1, h2⟩ := compact_srt hS m (by omega)
  obtain ⟨a, ha⟩ := get_some (L := S) (n := m) (by omega)
  rw [Go.Lib.compactUpTo_succ, arr_at ha]
  have hmem : ∀ y, y ∈ S.take (m + 1) ↔ y ∈ S.take m ∨ y = a := fun y => by rw [take_succ ha, List.mem_append, List.mem_singleton]
  have hle : ∀ (i j : Nat) x y, i < j → S[i]? = some x → S[j]? = some y → x ≤ y := by
   intro i j x y hij hx hy
   have h3 := get_lt hx
   have h4 := get_lt hy
   have := List.pairwise_iff_getElem.1 hS i j h3 h4 hij
   rw [List.getElem?_eq_getElem h3] at hx
   rw [List.getElem?_eq_getElem h4] at hy
   cases hx; cases hy; exact this
  by_cases hk : Go.Lib.keeps S.toArray m = true
  ·rw [if_pos hk]
   refine ⟨srt_snoc h1 ?_, fun y => by rw [List.mem_append, List.mem_singleton, h2, hmem]⟩
   intro y hy
   rw [h2] at hy
   obtain ⟨j, hj⟩ := List.mem_iff_getElem?.1 hy
   rw [List.getElem?_take] at hj
   split at hj
   ·rename_i hjm
    have h0 : m ≠ 0 := by omega
    obtain ⟨b, hb⟩ := get_some (L := S) (n := m - 1) (by omega)
    have hne : a ≠ b := by
     have := of_decide_eq_true hk
     rcases this with h | h
     ·exact absurd h h0
     ·rw [arr_at ha, arr_at hb] at h; exact h
    have hba : b < a := lt_of_le (List.not_lt.2 (hle (m - 1) m b a (by omega) hb ha)) hne
    by_cases e : j = m - 1
    ·subst e; rw [hb] at hj; cases hj; exact hba
    ·have hyb := hle j (m - 1) y b (by omega) hj hb
     by_cases e2 : y = b
     ·rw [e2]; exact hba
     ·exact List.lt_trans (lt_of_le (List.not_lt.2 hyb) (fun e => e2 e.symm)) hba
   ·cases hj
  ·rw [if_neg hk, List.append_nil]
   refine ⟨h1, fun y => ?_⟩
   rw [h2, hmem]
   constructor
   ·exact .inl
   ·rintro (h | h)
    ·exact h
    ·have h0 : m ≠ 0 := fun e => hk (by simp [Go.Lib.keeps, e])
     obtain ⟨b, hb⟩ := get_some (L := S) (n := m - 1) (by omega)
     have : a = b := by
      refine Classical.byContradiction fun hne => hk ?_
      refine decide_eq_true (.inr ?_)
      rw [arr_at ha, arr_at hb]; exact hne
     rw [h, this]
     refine List.mem_iff_getElem?.2 ⟨m - 1, ?_⟩
     rw [List.getElem?_take, if_pos (by omega)]; exact hb
theorem sc_ex {β : Type} (L : List Str) (hl : L.length ≤ 1000000) (F : List Str → Option β) : ∃ R, ((F_sortS L).bind fun v => need (v.length = L.length) ((F_compactS v).bind F)) = F R ∧ srtS R ∧ (∀ y, y ∈ R ↔ y ∈ L) := by
 unfold F_sortS
 rw [need_true (by omega), Option.bind_some]
 generalize hS : L.mergeSort _ = S
 have hp : S.Perm L := hS ▸ List.mergeSort_perm _ _
 have hpw : List.Pairwise (fun x y : Str => x ≤ y) S := by
  rw [← hS]
  refine (List.pairwise_mergeSort ?_ ?_ L).imp fun h => of_decide_eq_true h
  ·intro a b c h1 h2
   exact decide_eq_true (List.le_trans (of_decide_eq_true h1) (of_decide_eq_true h2))
  ·intro a b
   rcases List.le_total a b with h | h
   ·simp [h]
   ·simp [h]
 have hlen := hp.length_eq
 obtain ⟨h1, h2⟩ := compact_srt hpw _ (Nat.le_refl _)
 refine ⟨_, ?_, h1, fun y => ?_⟩
 ·unfold F_compactS
  rw [need_true hlen, need_true (by omega), Option.bind_some]
 ·rw [h2, take_all (Nat.le_refl _)]
  exact hp.mem_iff
theorem loop_coll {α β R : Type} {A : List α} (g : α → Bool) (f : α → β) {r : R} {body : (Int × List β → Option R) → Int × List β → Option R} (hA : A.length ≤ 9223372036854775807)
  (more : ∀ (i : Nat) (B : List β) k a, A[i]? = some a → i < 9223372036854775807 → B.length ≤ i → i < A.length → body k ((i : Int), B) = bif g a then k (((i + 1 : Nat) : Int), B ++ [f a]) else k (((i + 1 : Nat) : Int), B))
  (done : ∀ k, body k ((A.length : Int), (A.filter g).map f) = some r) : loop body (0, []) = some r := by
 obtain ⟨q, e, hq⟩ := loop_ex (body := body) (s0 := ((0 : Int), ([] : List β))) (Q := fun q => q = r) (L := A)
  (fun i s => s.1 = (i : Int) ∧ s.2 = ((A.take i).filter g).map f) hA ⟨rfl, rfl⟩
  (by
   rintro i ⟨j, B⟩ k a ha hi ⟨rfl, hB⟩ hk
   dsimp only at hB
   have hl : B.length ≤ i := by
    rw [hB, List.length_map]
    have h1 : ((A.take i).filter g).length ≤ (A.take i).length := List.length_filter_le _ _
    have h2 : (A.take i).length ≤ i := by rw [List.length_take]; omega
    omega
   have hn : (A.take (i + 1)).filter g = (A.take i).filter g ++ (if g a = true then [a] else []) := by
    rw [take_succ ha, List.filter_append]
    congr 1
    cases hg : g a <;> simp [hg]
   rw [more i B k a ha hi hl (get_lt ha)]
   cases hg : g a
   ·simp only [hg, Bool.false_eq_true, if_false, List.append_nil] at hn
    exact hk _ ⟨rfl, by rw [hB, hn]⟩
   ·simp only [hg, if_true] at hn
    exact hk _ ⟨rfl, by rw [hB, hn]; simp⟩)
  (by
   rintro ⟨j, B⟩ k ⟨rfl, hB⟩
   dsimp only at hB
   rw [take_all (Nat.le_refl _)] at hB
   subst hB
   exact ⟨_, done k, rfl⟩)
 rw [e, hq]
end Go.Ab
set_option linter.unusedVariables false
set_option linter.unusedSimpArgs false
namespace Go.Ab
open Go.RowKit
theorem nif {R : Type} {b : Bool} {x y : R} : (bif !b then x else y) = bif b then y else x := by cases b <;> rfl
theorem bool_ext {a b : Bool} (h : a = true ↔ b = true) : a = b := by cases a <;> cases b <;> simp_all
theorem dec_le {a b : Int} : decide (b ≤ a) = !decide (a < b) := by
 by_cases h : a < b
 ·rw [decide_eq_true h, decide_eq_false (by omega)]; rfl
 ·rw [decide_eq_false h, decide_eq_true (by omega)]; rfl
theorem int_pos' (n : Nat) : decide ((0 : Int) < ((n + 1 : Nat) : Int)) = true := decide_eq_true (by omega)
theorem adj_of {α : Type} {one : α → Bool} {bef : α → α → Bool} : ∀ {A : List α} {p : Option α}, (∀ x ∈ A, one x = true) → (∀ (i : Nat) x y, A[i]? = some x → A[i + 1]? = some y → bef x y = true) → (∀ q x, p = some q → A[0]? = some x → bef q x = true) → adj one bef p A = true
 | [], p, _, _, _ => by cases p <;> rfl
 | a :: A, p, h1, h2, h3 => by
  have ih := adj_of (A := A) (p := some a) (fun x hx => h1 x (List.mem_cons_of_mem _ hx)) (fun i x y hx hy => h2 (i + 1) x y (by simpa using hx) (by simpa using hy)) (fun q x hq hx => by
   cases hq
   exact h2 0 a x rfl (by simpa using hx))
  cases p with
  | none => simp [adj, h1 a List.mem_cons_self, ih]
  | some q => simp [adj, h1 a List.mem_cons_self, h3 q a rfl rfl, ih]
theorem adj_iff {α : Type} {one : α → Bool} {bef : α → α → Bool} {A : List α} : adj one bef none A = true ↔ (∀ x ∈ A, one x = true) ∧ ∀ (i : Nat) x y, A[i]? = some x → A[i + 1]? = some y → bef x y = true :=
 ⟨fun h => adj_all h, fun h => adj_of h.1 h.2 fun q x hq => by cases hq⟩
def rises (L : List Int) (lo hi : Int) : Bool := adj (fun x => decide (lo ≤ x ∧ x ≤ hi)) (fun a b => decide (a < b)) none L
theorem l00Rises_eq {L : List Int} (hL : L.length ≤ 9223372036854775807) (lo hi : Int) : F_spec_l00Rises L lo hi = some (rises L lo hi) := by
 unfold F_spec_l00Rises rises
 have := loop_adj (A := L) (body := F_spec_l00Rises_l0 L lo hi) (one := fun x => decide (lo ≤ x ∧ x ≤ hi)) (bef := fun a b => decide (a < b)) (fin := true) hL ?_ ?_ ?_
 ·rw [this, Bool.and_true]
 ·intro k a ha
  have h0 : (0 : Int) = ((0 : Nat) : Int) := rfl
  rw [h0]
  simp only [F_spec_l00Rises_l0, int_lt (get_lt ha), bif_t, ix_get ha, Option.bind_some, l00In_eq, nif]
  rfl
 ·intro i k q a hq ha hi
  simp only [F_spec_l00Rises_l0, int_lt (get_lt ha), bif_t, ix_get ha, Option.bind_some, l00In_eq, nif, int_pos', w64_pred (show i < 9223372036854775807 by omega), ix_get hq, w64_succ hi, dec_le]
 ·intro k
  simp only [F_spec_l00Rises_l0, int_lt_self, bif_f]
theorem increasing_eq {L : List Int} (hL : L.length ≤ 9223372036854775807) (h1 : 1 ≤ L.length) : F_impl_increasing L = some (adj (fun _ => true) (fun a b => decide (a < b)) none L) := by
 unfold F_impl_increasing
 have key : ∀ (d i : Nat), i + 1 + d = L.length → ∀ N, d < N → iter (F_impl_increasing_l0 L) N ((i + 1 : Nat) : Int) = some (adj (fun _ => true) (fun a b => decide (a < b)) L[i]? (L.drop (i + 1))) := by
  intro d
  induction d with
  | zero =>
   intro i hi N hN
   obtain ⟨N, rfl⟩ : ∃ M, N = M + 1 := ⟨N - 1, by omega⟩
   have hn : decide (((i + 1 : Nat) : Int) < (L.length : Int)) = false := decide_eq_false (by omega)
   rw [iter, List.drop_eq_nil_of_le (by omega)]
   simp only [F_impl_increasing_l0, hn, bif_f]
   cases L[i]? <;> rfl
  | succ d ih =>
   intro i hi N hN
   obtain ⟨N, rfl⟩ : ∃ M, N = M + 1 := ⟨N - 1, by omega⟩
   obtain ⟨a, ha⟩ := get_some (L := L) (n := i + 1) (by omega)
   obtain ⟨q, hq⟩ := get_some (L := L) (n := i) (by omega)
   have h2 := ih (i + 1) (by omega) N (by omega)
   rw [iter, drop_cons ha, hq]
   simp only [F_impl_increasing_l0, int_lt (get_lt ha), bif_t, ix_get ha, Option.bind_some, w64_pred (show i < 9223372036854775807 by omega), ix_get hq, w64_succ (show i + 1 < 9223372036854775807 by omega), dec_le, nif]
   rw [h2, ha]
   simp only [adj, Bool.true_and]
   cases decide (q < a) <;> rfl
 have h0 := key (L.length - 1) 0 (by omega) lim (lt_lim (by omega))
 obtain ⟨a, ha⟩ := get_some (L := L) (n := 0) (by omega)
 rw [ha] at h0
 have e : adj (fun _ => true) (fun a b => decide (a < b)) (some a) (L.drop (0 + 1)) = adj (fun _ => true) (fun a b => decide (a < b)) none L := by
  have : L = a :: L.drop 1 := by have := drop_cons ha; simpa using this
  conv => rhs; rw [this]
  rfl
 rw [e] at h0
 exact h0
def scaleOk (L : List Int) : Bool := decide ((5 : Int) ≤ (L.length : Int)) && (rises L 0 11 && decide (L[0]? = some 0))
theorem l03Scale_eq {L : List Int} (hL : L.length ≤ 9223372036854775807) : F_spec_l03Scale L = some (scaleOk L) := by
 unfold F_spec_l03Scale scaleOk
 rw [l00Rises_eq hL]
 by_cases h5 : (5 : Int) ≤ L.length
 ·obtain ⟨a, ha⟩ := get_some (L := L) (n := 0) (by omega)
  have ha2 : ix L (0 : Int) = some a := ix_get ha
  rw [decide_eq_true h5, bif_t, Option.bind_some, ha2, ha]
  cases rises L 0 11 <;> simp
 ·rw [decide_eq_false h5]; rfl
theorem ValidScale_eq {L : List Int} (hL : L.length ≤ 9223372036854775807) : F_impl_ValidScale L = some (scaleOk L) := by
 unfold F_impl_ValidScale scaleOk
 by_cases h5 : (5 : Int) ≤ L.length
 ·obtain ⟨a, ha⟩ := get_some (L := L) (n := 0) (by omega)
  obtain ⟨z, hz⟩ := get_some (L := L) (n := L.length - 1) (by omega)
  have ha2 : ix L (0 : Int) = some a := ix_get ha
  have hz2 : ix L (w64 ((L.length : Int) - 1)) = some z := by
   rw [show (L.length : Int) - 1 = ((L.length - 1 : Nat) : Int) by omega, w64_id (by omega)]
   exact ix_get hz
  rw [increasing_eq hL (by omega), decide_eq_true h5, bif_t, ha2, Option.bind_some, ha]
  simp only [Bool.true_and, Option.some.injEq, Option.bind_some, hz2]
  by_cases h0 : a = 0
  ·rw [decide_eq_true h0, bif_t, Bool.and_true]
   have : (bif adj (fun _ => true) (fun a b : Int => decide (a < b)) none L then some (decide (z < 12)) else some false) = some (adj (fun _ => true) (fun a b : Int => decide (a < b)) none L && decide (z < 12)) := by
    cases adj (fun _ => true) (fun a b : Int => decide (a < b)) none L <;> rfl
   rw [this]
   congr 1
   refine bool_ext ?_
   unfold rises
   rw [Bool.and_eq_true, adj_iff, adj_iff, decide_eq_true_iff]
   constructor
   ·rintro ⟨⟨_, h1⟩, h2⟩
    have mono : ∀ (d i : Nat) x y, L[i]? = some x → L[i + d]? = some y → x + d ≤ y := by
     intro d
     induction d with
     | zero => intro i x y hx hy; rw [Nat.add_zero, hx] at hy; cases hy; simp
     | succ d ih =>
      intro i x y hx hy
      obtain ⟨m, hm⟩ := get_some (L := L) (n := i + d) (by have := get_lt hy; omega)
      have h3 := ih i x m hx hm
      have h4 := of_decide_eq_true (h1 (i + d) m y hm hy)
      omega
    refine ⟨fun x hx => ?_, h1⟩
    obtain ⟨i, hi⟩ := List.mem_iff_getElem?.1 hx
    have hlt := get_lt hi
    have q1 := mono i 0 a x ha (by rw [Nat.zero_add]; exact hi)
    have q2 := mono (L.length - 1 - i) i x z hi (by rw [show i + (L.length - 1 - i) = L.length - 1 by omega]; exact hz)
    exact decide_eq_true (by omega)
   ·rintro ⟨h1, h2⟩
    refine ⟨⟨fun _ _ => rfl, h2⟩, ?_⟩
    have := of_decide_eq_true (h1 z (get_mem hz))
    omega
  ·rw [decide_eq_false h0, bif_f, Bool.and_false]
 ·rw [decide_eq_false h5]; rfl
theorem l00Has_eq {L : List Int} (hL : L.length ≤ 9223372036854775807) (t : Int) : F_spec_l00Has L t = some (decide (t ∈ L)) := by
 unfold F_spec_l00Has
 obtain ⟨r, e, hr⟩ := loop_ex (body := F_spec_l00Has_l0 L t) (L := L) (s0 := 0) (Q := fun r => r = decide (t ∈ L)) (fun i s => s = (i : Int) ∧ ∀ x ∈ L.take i, x ≠ t) hL ⟨rfl, by simp⟩
  (by
   rintro i _ k a ha hi ⟨rfl, hI⟩ hk
   simp only [F_spec_l00Has_l0, int_lt (get_lt ha), bif_t, ix_get ha, Option.bind_some, w64_succ hi, bif_dec]
   split
   ·rename_i h
    exact ⟨_, rfl, (decide_eq_true (by rw [← h]; exact get_mem ha)).symm⟩
   ·rename_i h
    refine hk _ ⟨rfl, fun x hx => ?_⟩
    rw [take_succ ha] at hx
    rcases List.mem_append.1 hx with hx | hx
    ·exact hI x hx
    ·rw [List.mem_singleton.1 hx]; exact h)
  (by
   rintro _ k ⟨rfl, hI⟩
   rw [take_all (Nat.le_refl _)] at hI
   simp only [F_spec_l00Has_l0, int_lt_self, bif_f]
   exact ⟨_, rfl, (decide_eq_false fun h => hI t h rfl).symm⟩)
 rw [e, hr]
theorem ContainsI_eq {L : List Int} (hL : L.length ≤ 9223372036854775807) (t : Int) : F_slices_Contains_Sint64_int64 L t = some (decide (t ∈ L)) := by
 unfold F_slices_Contains_Sint64_int64 F_slices_Index_Sint64_int64
 obtain ⟨r, e, hr⟩ := loop_ex (body := F_slices_Index_Sint64_int64_l0 L t) (L := L) (s0 := 0) (Q := fun r => decide (0 ≤ r) = decide (t ∈ L)) (fun i s => s = (i : Int) ∧ ∀ x ∈ L.take i, x ≠ t) hL ⟨rfl, by simp⟩
  (by
   rintro i _ k a ha hi ⟨rfl, hI⟩ hk
   simp only [F_slices_Index_Sint64_int64_l0, int_lt (get_lt ha), bif_t, ix_get ha, Option.bind_some, w64_succ hi, bif_dec]
   split
   ·rename_i h
    exact ⟨_, rfl, by rw [decide_eq_true (by omega), decide_eq_true (by rw [h]; exact get_mem ha)]⟩
   ·rename_i h
    refine hk _ ⟨rfl, fun x hx => ?_⟩
    rw [take_succ ha] at hx
    rcases List.mem_append.1 hx with hx | hx
    ·exact hI x hx
    ·rw [List.mem_singleton.1 hx]; exact fun e => h e.symm)
  (by
   rintro _ k ⟨rfl, hI⟩
   rw [take_all (Nat.le_refl _)] at hI
   simp only [F_slices_Index_Sint64_int64_l0, int_lt_self, bif_f]
   exact ⟨_, rfl, by rw [decide_eq_false (by omega), decide_eq_false fun h => hI t h rfl]⟩)
 rw [e, Option.bind_some, hr]
def toneIn (a : TRaga) (t : Int) : Bool := decide (t ∈ a.2.1) || decide (t ∈ a.2.2.1)
theorem l05Tone_eq {a : TRaga} (h1 : a.2.1.length ≤ 9223372036854775807) (h2 : a.2.2.1.length ≤ 9223372036854775807) (t : Int) : F_spec_l05Tone a t = some (toneIn a t) := by
 unfold F_spec_l05Tone toneIn
 rw [l00Has_eq h1, l00Has_eq h2]
 simp only [Option.bind_some]
 cases decide (t ∈ a.2.1) <;> rfl
theorem hasTone_eq {a : TRaga} (h1 : a.2.1.length ≤ 9223372036854775807) (h2 : a.2.2.1.length ≤ 9223372036854775807) (t : Int) : F_impl_Raga_hasTone a t = some (toneIn a t) := by
 unfold F_impl_Raga_hasTone toneIn
 rw [ContainsI_eq h1, ContainsI_eq h2]
 simp only [Option.bind_some]
 cases decide (t ∈ a.2.1) <;> rfl
def noteOk (a : TNote) : Bool := decide (-12 ≤ a.1 ∧ a.1 ≤ 23) && decide (1 ≤ a.2 ∧ a.2 ≤ 64)
def melOk (L : List TNote) : Bool := adj noteOk (fun _ _ => true) none L && decide ((L.length : Int) ≤ 48)
theorem l09Ok_eq {L : List TNote} (hL : L.length ≤ 9223372036854775807) : F_spec_l09Ok L = some (melOk L) := by
 unfold F_spec_l09Ok melOk
 have st : ∀ (i : Nat) k a, L[i]? = some a → i < 9223372036854775807 → F_spec_l09Ok_l0 L k (i : Int) = bif noteOk a then k ((i + 1 : Nat) : Int) else some false := by
  intro i k a ha hi
  simp only [F_spec_l09Ok_l0, F_spec_l03Pitch, F_spec_l09Length, int_lt (get_lt ha), bif_t, ix_get ha, Option.bind_some, l00In_eq, nif, w64_succ hi, noteOk]
  cases decide (-12 ≤ a.1 ∧ a.1 ≤ 23) <;> rfl
 refine loop_adj hL ?_ ?_ ?_
 ·intro k a ha; exact st 0 k a ha (by omega)
 ·intro i k q a hq ha hi; rw [st (i + 1) k a ha hi]; rfl
 ·intro k; simp only [F_spec_l09Ok_l0, int_lt_self, bif_f]
theorem ValidMelody_eq {L : List TNote} (hL : L.length ≤ 9223372036854775807) : F_impl_ValidMelody L = some (melOk L) := by
 have st : ∀ (i : Nat) k a, L[i]? = some a → i < 9223372036854775807 → F_impl_ValidMelody_l0 L k (i : Int) = bif noteOk a then k ((i + 1 : Nat) : Int) else some false := by
  intro i k a ha hi
  simp only [F_impl_ValidMelody_l0, F_impl_pitchOk, F_impl_lengthOk, int_lt (get_lt ha), bif_t, ix_get ha, Option.bind_some, within_eq, nif, w64_succ hi, noteOk]
  cases decide (-12 ≤ a.1 ∧ a.1 ≤ 23) <;> rfl
 have e : loop (F_impl_ValidMelody_l0 L) 0 = some (adj noteOk (fun _ _ => true) none L && true) := by
  refine loop_adj hL ?_ ?_ ?_
  ·intro k a ha; exact st 0 k a ha (by omega)
  ·intro i k q a hq ha hi; rw [st (i + 1) k a ha hi]; rfl
  ·intro k; simp only [F_impl_ValidMelody_l0, int_lt_self, bif_f]
 unfold F_impl_ValidMelody melOk
 rw [e]
 by_cases h : (48 : Int) < L.length
 ·rw [decide_eq_true h, bif_t, decide_eq_false (by omega), Bool.and_false]
 ·rw [decide_eq_false h, bif_f, decide_eq_true (by omega)]
end Go.Ab
set_option linter.unusedVariables false
set_option linter.unusedSimpArgs false
namespace Go.Ab
open Go.RowKit
def lesOk (a : TLesson) : Bool := decide (0 ≤ a.1 ∧ a.1 ≤ 100000) && (nameOk a.2.1 && (nameOk a.2.2.1 && (decide (1 ≤ a.2.2.2.1 ∧ a.2.2.2.1 ≤ 480) && decide (0 ≤ a.2.2.2.2 ∧ a.2.2.2.2 ≤ 100))))
def lesBef (a b : TLesson) : Bool := if a.1 ≠ b.1 then decide (a.1 < b.1) else if a.2.1 ≠ b.2.1 then decide (a.2.1 < b.2.1) else decide (a.2.2.1 < b.2.2.1)
theorem l28One_eq {a : TLesson} (h : OkLesson a) : F_spec_l28One a = some (lesOk a) := by
 obtain ⟨_, h1, h2, _⟩ := h
 unfold F_spec_l28One lesOk
 rw [l00In_eq, l00In_eq, l00In_eq, l01Name_eq _ h1, l01Name_eq _ h2]
 simp only [Option.bind_some]
 cases decide (0 ≤ a.1 ∧ a.1 ≤ 100000) <;> cases nameOk a.2.1 <;> cases nameOk a.2.2.1 <;> cases decide (1 ≤ a.2.2.2.1 ∧ a.2.2.2.1 ≤ 480) <;> rfl
theorem Lvalid_eq {a : TLesson} (h : OkLesson a) : F_impl_Lesson_valid a = some (lesOk a) := by
 obtain ⟨_, h1, h2, _⟩ := h
 unfold F_impl_Lesson_valid lesOk
 rw [within_eq, within_eq, within_eq, IsName_eq _ h1, IsName_eq _ h2]
 simp only [Option.bind_some]
 cases decide (0 ≤ a.1 ∧ a.1 ≤ 100000) <;> cases nameOk a.2.1 <;> cases nameOk a.2.2.1 <;> cases decide (1 ≤ a.2.2.2.1 ∧ a.2.2.2.1 ≤ 480) <;> rfl
theorem l28Before_eq (a b : TLesson) : F_spec_l28Before a b = some (lesBef a b) := by
 unfold F_spec_l28Before lesBef
 simp only [bif_dec, less_eq]
 split
 ·rfl
 ·split <;> rfl
def cmpI (a b : Int) : Int := if a < b then -1 else if b < a then 1 else 0
def cmpT (a b : Str) : Int := if a < b then -1 else if a = b then 0 else 1
theorem cmpI_eq (a b : Int) : F_cmp_Compare_int64 a b = some (cmpI a b) := by
 unfold F_cmp_Compare_int64 F_cmp_isNaN_int64 cmpI
 simp only [ne_eq, not_true_eq_false, decide_false, Option.bind_some, bif_f, bif_dec]
 split
 ·rfl
 ·split <;> rfl
theorem cmpT_eq (a b : Str) : F_cmp_Compare_string a b = some (cmpT a b) := by
 unfold F_cmp_Compare_string F_cmp_isNaN_string cmpT
 simp only [ne_eq, not_true_eq_false, decide_false, Option.bind_some, bif_f, less_eq]
 by_cases h : a < b
 ·simp [h]
 ·by_cases h2 : a = b
  ·subst h2; simp [h]
  ·simp [h, h2]
def or3 (x y z : Int) : Int := if x ≠ 0 then x else if y ≠ 0 then y else z
theorem Or3_eq (x y z : Int) : F_cmp_Or_int [x, y, z] = some (or3 x y z) := by
 unfold F_cmp_Or_int
 have := loop_sfx (body := F_cmp_Or_int_l0 [x, y, z]) (L := [x, y, z]) (fun t => (t.find? (fun z => decide (z ≠ 0))).getD 0) (by simp) ?_ ?_
 ·rw [this]
  unfold or3
  by_cases h : x = 0 <;> by_cases h2 : y = 0 <;> by_cases h3 : z = 0 <;> simp [List.find?, h, h2, h3]
 ·intro i k a t ha hi hk
  simp only [F_cmp_Or_int_l0, int_lt (get_lt ha), bif_t, ix_get ha, Option.bind_some, w64_succ hi, bif_dec, hk]
  by_cases h : a = 0 <;> simp [List.find?, h]
 ·intro k
  simp only [F_cmp_Or_int_l0, int_lt_self, bif_f]
  rfl
theorem compare_bef (a b : TLesson) : ∃ c, F_impl_compareLessons a b = some c ∧ (decide (0 ≤ c) = !lesBef a b) := by
 refine ⟨or3 (cmpI a.1 b.1) (cmpT a.2.1 b.2.1) (cmpT a.2.2.1 b.2.2.1), ?_, ?_⟩
 ·unfold F_impl_compareLessons
  rw [cmpI_eq, cmpT_eq, cmpT_eq]
  simp only [Option.bind_some, Or3_eq]
 ·unfold or3 lesBef cmpI cmpT
  by_cases h1 : a.1 < b.1
  ·have : a.1 ≠ b.1 := by omega
   simp [h1, this]
  ·by_cases h2 : b.1 < a.1
   ·have : a.1 ≠ b.1 := by omega
    simp [h1, h2, this]
   ·have e : a.1 = b.1 := by omega
    simp only [e, Int.lt_irrefl, if_false, ne_eq, not_true_eq_false]
    by_cases h3 : a.2.1 = b.2.1
    ·have e3 : ¬ b.2.1 < b.2.1 := List.lt_irrefl _
     simp only [h3, e3, if_false, if_true, not_true_eq_false]
     by_cases h4 : a.2.2.1 < b.2.2.1
     ·simp [h4]
     ·by_cases h5 : a.2.2.1 = b.2.2.1
      ·have e5 : ¬ b.2.2.1 < b.2.2.1 := List.lt_irrefl _
       simp [h5, e5]
      ·simp [h4, h5]
    ·by_cases h4 : a.2.1 < b.2.1 <;> simp [h3, h4]
theorem pups_ex {A : List TLesson} (hA : A.length ≤ 100000) : ∃ R, F_spec_l28Pupils A = some R ∧ F_impl_pupilsOf A = some R ∧ srtS R ∧ ∀ y, y ∈ R ↔ ∃ a ∈ A, a.2.1 = y := by
 obtain ⟨R, h1, h2, h3⟩ : ∃ R, F_spec_l28Pupils A = some R ∧ (srtS R ∧ ∀ y, y ∈ R ↔ ∃ a ∈ A, a.2.1 = y) := by
  unfold F_spec_l28Pupils
  refine loop_ex (L := A) (fun i s => s.1 = (i : Int) ∧ srtS s.2 ∧ s.2.length ≤ i ∧ ∀ y, y ∈ s.2 ↔ ∃ a ∈ A.take i, a.2.1 = y) (by omega) ⟨rfl, List.Pairwise.nil, by simp, by simp⟩ ?_ ?_
  ·rintro i ⟨_, B⟩ K a ha hi ⟨rfl, g1, g2, g3⟩ hK
   dsimp only at g1 g2 g3
   have hlt := get_lt ha
   obtain ⟨S, e, q1, q2⟩ := put_ex g1 a.2.1 (by omega)
   simp only [F_spec_l28Pupils_l0, int_lt hlt, bif_t, ix_get ha, Option.bind_some, e, w64_succ hi]
   refine hK _ ⟨rfl, q1, ?_, fun y => ?_⟩
   ·have hd : S.Nodup := q1.imp fun h => lt_ne h
    have := hd.length_le_of_subset (l₂ := B ++ [a.2.1]) (fun y hy => by
     rcases (q2 y).1 hy with h | h
     ·exact List.mem_append_left _ h
     ·exact List.mem_append_right _ (by rw [h]; exact List.mem_singleton.2 rfl))
    simp only [List.length_append, List.length_singleton] at this
    dsimp only; omega
   ·rw [q2, g3, take_succ ha]
    constructor
    ·rintro (⟨x, hx, e⟩ | h)
     ·exact ⟨x, List.mem_append_left _ hx, e⟩
     ·exact ⟨a, List.mem_append_right _ (List.mem_singleton.2 rfl), h.symm⟩
    ·rintro ⟨x, hx, e⟩
     rcases List.mem_append.1 hx with h | h
     ·exact .inl ⟨x, h, e⟩
     ·rw [List.mem_singleton.1 h] at e; exact .inr e.symm
  ·rintro ⟨_, B⟩ K ⟨rfl, g1, g2, g3⟩
   rw [take_all (Nat.le_refl _)] at g3
   simp only [F_spec_l28Pupils_l0, int_lt_self, bif_f]
   exact ⟨_, rfl, g1, g3⟩
 obtain ⟨S, q1, q2, q3⟩ := sc_ex ((A.filter fun _ => true).map (·.2.1)) (by rw [List.length_map]; exact Nat.le_trans (List.length_filter_le _ _) (by omega)) (some : List Str → Option (List Str))
 have e : S = R := srt_uniq q2 h2 fun y => by rw [q3, h3]; simp
 refine ⟨R, h1, ?_, h2, h3⟩
 unfold F_impl_pupilsOf
 refine loop_coll (A := A) (fun _ => true) (·.2.1) (by omega) ?_ ?_
 ·intro i B k a ha hi hB hlt
  have hr : room (B.length + [a.2.1].length) 16 := by constructor <;> simp only [List.length_singleton] <;> omega
  simp only [F_impl_pupilsOf_l0, int_lt hlt, bif_t, ix_get ha, Option.bind_some, need_true hr, w64_succ hi]
 ·intro k
  simp only [F_impl_pupilsOf_l0, int_lt_self, bif_f]
  rw [← e]
  exact q1
structure VL (A : List TLesson) : Prop where
 len : A.length ≤ 64
 one : ∀ a ∈ A, lesOk a = true
 adj : ∀ (i : Nat) x y, A[i]? = some x → A[i + 1]? = some y → lesBef x y = true
theorem lessons_eq {A : List TLesson} (hA : (OkL OkLesson) A) (hs : A.length ≤ 1048576) : ∃ r, F_spec_l28Ok A = some r ∧ F_impl_ValidLessons A = some r ∧ (r = true → VL A) := by
 have h1 := hA.1
 have i1 : loop (F_impl_ValidLessons_l0 A) 0 = some (adj lesOk lesBef none A && true) := by
  refine loop_adj h1 ?_ ?_ ?_
  ·intro k a ha
   have h0 : (0 : Int) = ((0 : Nat) : Int) := rfl
   rw [h0]
   simp only [F_impl_ValidLessons_l0, int_lt (get_lt ha), bif_t, ix_get ha, Option.bind_some, Lvalid_eq (hA.2 a (get_mem ha))]
   cases lesOk a <;> rfl
  ·intro i k q a hq ha hi
   obtain ⟨c, e, hc⟩ := compare_bef q a
   simp only [F_impl_ValidLessons_l0, int_lt (get_lt ha), bif_t, ix_get ha, Option.bind_some, Lvalid_eq (hA.2 a (get_mem ha)), w64_pred (show i < 9223372036854775807 by omega), w64_succ hi, ix_get hq, e, hc]
   rw [decide_eq_true (show (0 : Int) < ((i + 1 : Nat) : Int) by omega), bif_t]
   cases lesOk a <;> cases lesBef q a <;> rfl
  ·intro k; simp only [F_impl_ValidLessons_l0, int_lt_self, bif_f]
 have s1 : ∀ fin, (∀ k, F_spec_l28Ok_l0 A k (A.length : Int) = some fin) → F_spec_l28Ok A = some (adj lesOk lesBef none A && fin) := by
  intro fin hf
  unfold F_spec_l28Ok
  refine loop_adj h1 ?_ ?_ hf
  ·intro k a ha
   have h0 : (0 : Int) = ((0 : Nat) : Int) := rfl
   rw [h0]
   simp only [F_spec_l28Ok_l0, int_lt (get_lt ha), bif_t, ix_get ha, Option.bind_some, l28One_eq (hA.2 a (get_mem ha))]
   cases lesOk a <;> rfl
  ·intro i k q a hq ha hi
   simp only [F_spec_l28Ok_l0, int_lt (get_lt ha), bif_t, ix_get ha, Option.bind_some, l28One_eq (hA.2 a (get_mem ha)), w64_pred (show i < 9223372036854775807 by omega), w64_succ hi, ix_get hq, l28Before_eq]
   rw [decide_eq_true (show (0 : Int) < ((i + 1 : Nat) : Int) by omega), bif_t]
   cases lesOk a <;> cases lesBef q a <;> rfl
 by_cases h64 : A.length ≤ 64
 ·obtain ⟨R, p1, p2, _, _⟩ := pups_ex (A := A) (by omega)
  refine ⟨adj lesOk lesBef none A && decide ((R.length : Int) ≤ 12), s1 _ ?_, ?_, ?_⟩
  ·intro k
   simp only [F_spec_l28Ok_l0, int_lt_self, bif_f]
   rw [decide_eq_true (by omega), bif_t, p1]; rfl
  ·unfold F_impl_ValidLessons
   rw [decide_eq_false (by omega), bif_f, p2, Option.bind_some, i1]
   by_cases h : (12 : Int) < R.length
   ·rw [decide_eq_true h, bif_t, decide_eq_false (by omega), Bool.and_false]
   ·rw [decide_eq_false h, bif_f, decide_eq_true (by omega)]
  ·intro hr
   obtain ⟨g1, g2⟩ := adj_all (Bool.and_eq_true_iff.1 hr).1
   exact ⟨h64, g1, g2⟩
 ·refine ⟨false, ?_, ?_, fun h => by cases h⟩
  ·rw [s1 false, Bool.and_false]
   intro k
   simp only [F_spec_l28Ok_l0, int_lt_self, bif_f]
   rw [decide_eq_false (by omega), bif_f]
  ·unfold F_impl_ValidLessons
   rw [decide_eq_true (by omega), bif_t]
end Go.Ab
set_option linter.unusedVariables false
set_option linter.unusedSimpArgs false
namespace Go.Ab
open Go.RowKit
theorem loop_adjP {α : Type} {A : List α} {one : α → Bool} {bef : α → α → Bool} {fin : Bool} {body : (Int → Option Bool) → Int → Option Bool} (hA : A.length ≤ 9223372036854775807)
  (first : ∀ k a, A[0]? = some a → body k 0 = bif one a then k 1 else some false)
  (more : ∀ (i : Nat) k q a, A[i]? = some q → A[i + 1]? = some a → one q = true → i + 1 < 9223372036854775807 → body k ((i + 1 : Nat) : Int) = bif one a then (bif bef q a then k ((i + 2 : Nat) : Int) else some false) else some false)
  (done : ∀ k, body k (A.length : Int) = some fin) : loop body 0 = some (adj one bef none A && fin) := by
 have key : ∀ (d i : Nat), i + 1 + d = A.length → ∀ q, A[i]? = some q → one q = true → ∀ N, d < N → iter body N ((i + 1 : Nat) : Int) = some (adj one bef (some q) (A.drop (i + 1)) && fin) := by
  intro d
  induction d with
  | zero =>
   intro i hi q hq ho N hN
   obtain ⟨N, rfl⟩ : ∃ M, N = M + 1 := ⟨N - 1, by omega⟩
   have : i + 1 = A.length := by omega
   rw [iter, this, done, List.drop_length]
   rfl
  | succ d ih =>
   intro i hi q hq ho N hN
   obtain ⟨N, rfl⟩ : ∃ M, N = M + 1 := ⟨N - 1, by omega⟩
   obtain ⟨a, ha⟩ := get_some (L := A) (n := i + 1) (by omega)
   rw [iter, more i _ q a hq ha ho (by omega), drop_cons ha]
   simp only [adj]
   cases ho2 : one a
   ·rfl
   ·cases bef q a
    ·rfl
    ·have := ih (i + 1) (by omega) a ha ho2 N (by omega)
     simp only [bif_t, Bool.true_and]
     exact this
 cases A with
 | nil =>
  obtain ⟨m, hm⟩ : ∃ m, lim = m + 1 := ⟨lim - 1, by unfold lim; omega⟩
  unfold loop
  rw [hm, iter]
  have := done (iter body m)
  simpa [adj] using this
 | cons a A =>
  obtain ⟨m, hm⟩ : ∃ m, lim = m + 1 := ⟨lim - 1, by unfold lim; omega⟩
  have hml : A.length < m := by unfold lim at hm; simp only [List.length_cons] at hA; omega
  have hf := first (iter body m) a rfl
  unfold loop
  rw [hm, iter, hf]
  simp only [adj]
  cases ho : one a
  ·rfl
  ·have := key A.length 0 (by simp only [List.length_cons]; omega) a rfl ho m hml
   simp only [bif_t, Bool.true_and]
   simpa using this
def pr2 : List Int → Bool
 | [a, b] => decide (0 ≤ a ∧ a ≤ 11) && (decide (0 ≤ b ∧ b ≤ 11) && !decide (a = b))
 | _ => false
def pbef : List Int → List Int → Bool
 | [a, b], [c, d] => decide (a < c) || (decide (a = c) && decide (b < d))
 | _, _ => false
theorem two_cases {α : Type} (q : List α) : (∃ a b, q = [a, b]) ∨ decide ((q.length : Int) = 2) = false := by
 match q with
 | [] => exact .inr (by simp)
 | [a] => exact .inr (by simp)
 | [a, b] => exact .inl ⟨a, b, rfl⟩
 | a :: b :: c :: t => exact .inr (decide_eq_false (by simp only [List.length_cons]; omega))
theorem pr2_two {q : List Int} (h : pr2 q = true) : ∃ a b, q = [a, b] := by
 rcases two_cases q with h2 | h2
 ·exact h2
 ·match q, h with
  | [a, b], _ => exact ⟨a, b, rfl⟩
theorem ix0 {α : Type} (a b : α) : ix [a, b] 0 = some a := rfl
theorem ix1 {α : Type} (a b : α) : ix [a, b] 1 = some b := rfl
theorem pr2_no {q : List Int} (h : decide ((q.length : Int) = 2) = false) : pr2 q = false := by
 match q, h with
 | [], _ => rfl
 | [a], _ => rfl
 | [a, b], h => simp at h
 | a :: b :: c :: t, _ => rfl
theorem l05Pair_eq (q : List Int) : F_spec_l05Pair q = some (pr2 q) := by
 unfold F_spec_l05Pair
 rcases two_cases q with ⟨a, b, rfl⟩ | h
 ·rw [show decide ((([a, b] : List Int).length : Int) = 2) = true from rfl, bif_t]
  simp only [ix0, ix1, Option.bind_some, l00In_eq, pr2]
  cases decide (0 ≤ a ∧ a ≤ 11) <;> cases decide (0 ≤ b ∧ b ≤ 11) <;> simp
 ·rw [h, bif_f, pr2_no h]
theorem Compare2_eq (a b c d : Int) : ∃ r, F_slices_Compare_Sint64_int64 [a, b] [c, d] = some r ∧ decide (0 ≤ r) = !pbef [a, b] [c, d] := by
 unfold F_slices_Compare_Sint64_int64
 obtain ⟨m, hm⟩ : ∃ m, lim = m + 1 + 1 + 1 := ⟨lim - 3, by unfold lim; omega⟩
 unfold loop
 rw [hm]
 have w1 : w64 ((0 : Int) + 1) = 1 := by rw [w64_id (by omega)]; rfl
 have w2 : w64 ((1 : Int) + 1) = 2 := by rw [w64_id (by omega)]; rfl
 simp only [iter, F_slices_Compare_Sint64_int64_l0, ix0, ix1, Option.bind_some, cmpI_eq, w1, w2, List.length_cons, List.length_nil]
 simp only [show decide ((0 : Int) < ((0 + 1 + 1 : Nat) : Int)) = true from rfl, show decide ((1 : Int) < ((0 + 1 + 1 : Nat) : Int)) = true from rfl, show decide ((2 : Int) < ((0 + 1 + 1 : Nat) : Int)) = false from rfl, show decide (((0 + 1 + 1 : Nat) : Int) ≤ 0) = false from rfl, show decide (((0 + 1 + 1 : Nat) : Int) ≤ 1) = false from rfl, show decide (((0 + 1 + 1 : Nat) : Int) < ((0 + 1 + 1 : Nat) : Int)) = false from rfl, bif_t, bif_f]
 unfold pbef cmpI
 rcases Int.lt_trichotomy a c with h | h | h
 ·refine ⟨-1, ?_, ?_⟩ <;> simp [h]
 ·subst h
  rcases Int.lt_trichotomy b d with h | h | h
  ·refine ⟨-1, ?_, ?_⟩ <;> simp [h]
  ·subst h
   refine ⟨0, ?_, ?_⟩ <;> simp
  ·have : ¬ b < d := by omega
   refine ⟨1, ?_, ?_⟩ <;> simp [h, this]
 ·have h1 : ¬ a < c := by omega
  have h2 : ¬ a = c := by omega
  refine ⟨1, ?_, ?_⟩ <;> simp [h, h1, h2]
def pairsOk (F : List (List Int)) : Bool := adj pr2 pbef none F && decide ((F.length : Int) ≤ 8)
theorem l05Pairs_eq {F : List (List Int)} (hF : F.length ≤ 9223372036854775807) : F_spec_l05Pairs F = some (pairsOk F) := by
 unfold F_spec_l05Pairs pairsOk
 refine loop_adjP hF ?_ ?_ ?_
 ·intro k a ha
  have h0 : (0 : Int) = ((0 : Nat) : Int) := rfl
  rw [h0]
  simp only [F_spec_l05Pairs_l0, int_lt (get_lt ha), bif_t, ix_get ha, Option.bind_some, l05Pair_eq, nif]
  rfl
 ·intro i k q a hq ha ho hi
  obtain ⟨x, y, rfl⟩ := pr2_two ho
  simp only [F_spec_l05Pairs_l0, int_lt (get_lt ha), bif_t, ix_get ha, Option.bind_some, l05Pair_eq, nif, int_pos', w64_pred (show i < 9223372036854775807 by omega), ix_get hq, ix0, ix1, w64_succ hi]
  cases hp : pr2 a
  ·rfl
  ·obtain ⟨c, d, rfl⟩ := pr2_two hp
   simp only [bif_t, ix0, ix1, Option.bind_some, pbef]
   rcases Int.lt_trichotomy x c with h | h | h
   ·rw [decide_eq_false (show ¬ c < x by omega), decide_eq_false (show ¬ x = c by omega), decide_eq_true h]; rfl
   ·subst h
    rw [decide_eq_false (show ¬ x < x by omega), decide_eq_true (rfl : x = x)]
    by_cases h3 : y < d
    ·rw [decide_eq_false (show ¬ d ≤ y by omega), decide_eq_true h3]; rfl
    ·rw [decide_eq_true (show d ≤ y by omega), decide_eq_false h3]; rfl
   ·rw [decide_eq_true h, decide_eq_false (show ¬ x < c by omega), decide_eq_false (show ¬ x = c by omega)]; rfl
 ·intro k; simp only [F_spec_l05Pairs_l0, int_lt_self, bif_f]
def ragaOk (a : TRaga) : Bool := nameOk a.1 && (scaleOk a.2.1 && (scaleOk a.2.2.1 && (toneIn a a.2.2.2.1 && (toneIn a a.2.2.2.2.1 && (!decide (a.2.2.2.1 = a.2.2.2.2.1) && pairsOk a.2.2.2.2.2)))))
theorem l05Ok_eq {a : TRaga} (o : OkRaga a) : F_spec_l05Ok a = some (ragaOk a) := by
 obtain ⟨o0, o1, o2, _, _, o5⟩ := o
 unfold F_spec_l05Ok ragaOk
 rw [l01Name_eq _ o0, l03Scale_eq o1.1, l03Scale_eq o2.1, l05Tone_eq o1.1 o2.1, l05Tone_eq o1.1 o2.1, l05Pairs_eq o5.1]
 simp only [Option.bind_some, ne_eq, decide_not]
 cases nameOk a.1 <;> cases scaleOk a.2.1 <;> cases scaleOk a.2.2.1 <;> cases toneIn a a.2.2.2.1 <;> cases toneIn a a.2.2.2.2.1 <;> cases decide (a.2.2.2.1 = a.2.2.2.2.1) <;> rfl
theorem ValidRaga_eq {a : TRaga} (o : OkRaga a) : F_impl_ValidRaga a = some (ragaOk a) := by
 obtain ⟨o0, o1, o2, _, _, o5⟩ := o
 have e : loop (F_impl_ValidRaga_l0 a) 0 = some (adj pr2 pbef none a.2.2.2.2.2 && true) := by
  refine loop_adjP o5.1 ?_ ?_ ?_
  ·intro k q hq
   have h0 : (0 : Int) = ((0 : Nat) : Int) := rfl
   rw [h0]
   simp only [F_impl_ValidRaga_l0, int_lt (get_lt hq), bif_t, ix_get hq, Option.bind_some]
   rcases two_cases q with ⟨x, y, rfl⟩ | h
   ·rw [show decide ((([x, y] : List Int).length : Int) ≠ 2) = false from rfl, bif_f]
    simp only [ix0, ix1, Option.bind_some, F_impl_toneOk, within_eq, pr2]
    cases decide (0 ≤ x ∧ x ≤ 11) <;> cases decide (0 ≤ y ∧ y ≤ 11) <;> cases decide (x = y) <;> rfl
   ·rw [decide_eq_true (of_decide_eq_false h), bif_t, pr2_no h]; rfl
  ·intro i k p q hp hq ho hi
   obtain ⟨c, d, rfl⟩ := pr2_two ho
   simp only [F_impl_ValidRaga_l0, int_lt (get_lt hq), bif_t, ix_get hq, Option.bind_some, int_pos', w64_pred (show i < 9223372036854775807 by omega), ix_get hp, w64_succ hi]
   rcases two_cases q with ⟨x, y, rfl⟩ | h
   ·obtain ⟨r, e1, e2⟩ := Compare2_eq c d x y
    rw [show decide ((([x, y] : List Int).length : Int) ≠ 2) = false from rfl, bif_f]
    simp only [ix0, ix1, Option.bind_some, F_impl_toneOk, within_eq, pr2, e1, e2, nif]
    cases decide (0 ≤ x ∧ x ≤ 11) <;> cases decide (0 ≤ y ∧ y ≤ 11) <;> cases decide (x = y) <;> rfl
   ·rw [decide_eq_true (of_decide_eq_false h), bif_t, pr2_no h]; rfl
  ·intro k; simp only [F_impl_ValidRaga_l0, int_lt_self, bif_f]
 unfold F_impl_ValidRaga ragaOk pairsOk
 rw [IsName_eq _ o0, ValidScale_eq o1.1, ValidScale_eq o2.1, hasTone_eq o1.1 o2.1, hasTone_eq o1.1 o2.1, e]
 simp only [Option.bind_some, Bool.and_true]
 have h8 : decide ((8 : Int) < (a.2.2.2.2.2.length : Int)) = !decide ((a.2.2.2.2.2.length : Int) ≤ 8) := by
  by_cases h : (a.2.2.2.2.2.length : Int) ≤ 8
  ·rw [decide_eq_true h, decide_eq_false (by omega)]; rfl
  ·rw [decide_eq_false h, decide_eq_true (by omega)]; rfl
 rw [h8]
 cases nameOk a.1 <;> cases scaleOk a.2.1 <;> cases scaleOk a.2.2.1 <;> cases toneIn a a.2.2.2.1 <;> cases toneIn a a.2.2.2.2.1 <;> cases decide (a.2.2.2.1 = a.2.2.2.2.1) <;> cases decide ((a.2.2.2.2.2.length : Int) ≤ 8) <;> simp
end Go.Ab
set_option linter.unusedVariables false
set_option linter.unusedSimpArgs false
namespace Go.Ab
open Go.RowKit
theorem dec_gt (a b : Int) : decide (b < a) = !decide (a ≤ b) := by
 by_cases h : a ≤ b
 ·rw [decide_eq_true h, decide_eq_false (by omega)]; rfl
 ·rw [decide_eq_false h, decide_eq_true (by omega)]; rfl
def sylOk (t : TSyllable) : Bool := nameOk t.1 && (decide ((t.1.length : Int) ≤ 6) && (decide (1 ≤ t.2.1 ∧ t.2.1 ≤ 3) && decide (1 ≤ t.2.2 ∧ t.2.2 ≤ 8)))
def sylBef (a b : TSyllable) : Bool := Op.bytesLess a.1 b.1
theorem l18One_eq {t : TSyllable} (o : OkSyllable t) : F_spec_l18One t = some (sylOk t) := by
 unfold F_spec_l18One sylOk
 rw [l01Name_eq _ o.1, l00In_eq, l00In_eq]
 simp only [Option.bind_some]
 cases nameOk t.1 <;> cases decide ((t.1.length : Int) ≤ 6) <;> cases decide (1 ≤ t.2.1 ∧ t.2.1 ≤ 3) <;> rfl
theorem ValidSyllable_eq {t : TSyllable} (o : OkSyllable t) : F_impl_ValidSyllable t = some (sylOk t) := by
 unfold F_impl_ValidSyllable sylOk
 rw [IsName_eq _ o.1, within_eq, within_eq]
 simp only [Option.bind_some]
 cases nameOk t.1 <;> cases decide ((t.1.length : Int) ≤ 6) <;> cases decide (1 ≤ t.2.1 ∧ t.2.1 ≤ 3) <;> rfl
def sylsOk (L : List TSyllable) : Bool := adj sylOk sylBef none L && decide ((L.length : Int) ≤ 16)
theorem l18Ok_eq {L : List TSyllable} (oL : (OkL OkSyllable) L) : F_spec_l18Ok L = some (sylsOk L) := by
 unfold F_spec_l18Ok sylsOk
 refine loop_adj oL.1 ?_ ?_ ?_
 ·intro k a ha
  have h0 : (0 : Int) = ((0 : Nat) : Int) := rfl
  rw [h0]
  simp only [F_spec_l18Ok_l0, int_lt (get_lt ha), bif_t, ix_get ha, Option.bind_some, l18One_eq (oL.2 a (get_mem ha)), nif]
  rfl
 ·intro i k q a hq ha hi
  simp only [F_spec_l18Ok_l0, int_lt (get_lt ha), bif_t, ix_get ha, Option.bind_some, l18One_eq (oL.2 a (get_mem ha)), nif, int_pos', w64_pred (show i < 9223372036854775807 by omega), w64_succ hi, ix_get hq, sylBef]
 ·intro k; simp only [F_spec_l18Ok_l0, int_lt_self, bif_f]
theorem ValidSyllables_eq {L : List TSyllable} (oL : (OkL OkSyllable) L) : F_impl_ValidSyllables L = some (sylsOk L) := by
 have e : loop (F_impl_ValidSyllables_l0 L) 0 = some (adj sylOk sylBef none L && true) := by
  refine loop_adj oL.1 ?_ ?_ ?_
  ·intro k a ha
   have h0 : (0 : Int) = ((0 : Nat) : Int) := rfl
   rw [h0]
   simp only [F_impl_ValidSyllables_l0, int_lt (get_lt ha), bif_t, ix_get ha, Option.bind_some, ValidSyllable_eq (oL.2 a (get_mem ha)), nif]
   rfl
  ·intro i k q a hq ha hi
   simp only [F_impl_ValidSyllables_l0, int_lt (get_lt ha), bif_t, ix_get ha, Option.bind_some, ValidSyllable_eq (oL.2 a (get_mem ha)), nif, int_pos', w64_pred (show i < 9223372036854775807 by omega), w64_succ hi, ix_get hq, ← bytes_not (a := q.1) (b := a.1), sylBef]
  ·intro k; simp only [F_impl_ValidSyllables_l0, int_lt_self, bif_f]
 unfold F_impl_ValidSyllables sylsOk
 rw [e, dec_gt, nif, Bool.and_true]
 cases decide ((L.length : Int) ≤ 16)
 ·rw [bif_f, Bool.and_false]
 ·rw [bif_t, Bool.and_true]
def itmOk (t : TItem) : Bool := nameOk t.1 && (decide (0 ≤ t.2.1 ∧ t.2.1 ≤ 1439) && (decide (0 ≤ t.2.2.1 ∧ t.2.2.1 ≤ 1439) && (!decide (t.2.1 = t.2.2.1) && (decide (-1 ≤ t.2.2.2.1 ∧ t.2.2.2.1 ≤ 5) && (decide (1 ≤ t.2.2.2.2.1 ∧ t.2.2.2.2.1 ≤ 240) && decide (0 ≤ t.2.2.2.2.2 ∧ t.2.2.2.2.2 ≤ 1000))))))
def itmBef (a b : TItem) : Bool := Op.bytesLess a.1 b.1
theorem l08One_eq {t : TItem} (o : OkItem t) : F_spec_l08One t = some (itmOk t) := by
 unfold F_spec_l08One itmOk F_spec_l08Minute
 rw [l01Name_eq _ o.1]
 simp only [l00In_eq, Option.bind_some, ne_eq, decide_not]
 cases nameOk t.1 <;> cases decide (0 ≤ t.2.1 ∧ t.2.1 ≤ 1439) <;> cases decide (0 ≤ t.2.2.1 ∧ t.2.2.1 ≤ 1439) <;> cases decide (t.2.1 = t.2.2.1) <;> cases decide (-1 ≤ t.2.2.2.1 ∧ t.2.2.2.1 ≤ 5) <;> cases decide (1 ≤ t.2.2.2.2.1 ∧ t.2.2.2.2.1 ≤ 240) <;> rfl
theorem ValidItem_eq {t : TItem} (o : OkItem t) : F_impl_ValidItem t = some (itmOk t) := by
 unfold F_impl_ValidItem itmOk F_impl_minuteOk
 rw [IsName_eq _ o.1]
 simp only [within_eq, Option.bind_some, ne_eq, decide_not]
 cases nameOk t.1 <;> cases decide (0 ≤ t.2.1 ∧ t.2.1 ≤ 1439) <;> cases decide (0 ≤ t.2.2.1 ∧ t.2.2.1 ≤ 1439) <;> cases decide (t.2.1 = t.2.2.1) <;> cases decide (-1 ≤ t.2.2.2.1 ∧ t.2.2.2.1 ≤ 5) <;> cases decide (1 ≤ t.2.2.2.2.1 ∧ t.2.2.2.2.1 ≤ 240) <;> rfl
def itmsOk (L : List TItem) : Bool := adj itmOk itmBef none L && decide ((L.length : Int) ≤ 12)
theorem l08Ok_eq {L : List TItem} (oL : (OkL OkItem) L) : F_spec_l08Ok L = some (itmsOk L) := by
 unfold F_spec_l08Ok itmsOk
 refine loop_adj oL.1 ?_ ?_ ?_
 ·intro k a ha
  have h0 : (0 : Int) = ((0 : Nat) : Int) := rfl
  rw [h0]
  simp only [F_spec_l08Ok_l0, int_lt (get_lt ha), bif_t, ix_get ha, Option.bind_some, l08One_eq (oL.2 a (get_mem ha)), nif]
  rfl
 ·intro i k q a hq ha hi
  simp only [F_spec_l08Ok_l0, int_lt (get_lt ha), bif_t, ix_get ha, Option.bind_some, l08One_eq (oL.2 a (get_mem ha)), nif, int_pos', w64_pred (show i < 9223372036854775807 by omega), w64_succ hi, ix_get hq, itmBef]
 ·intro k; simp only [F_spec_l08Ok_l0, int_lt_self, bif_f]
theorem ValidItems_eq {L : List TItem} (oL : (OkL OkItem) L) : F_impl_ValidItems L = some (itmsOk L) := by
 have e : loop (F_impl_ValidItems_l0 L) 0 = some (adj itmOk itmBef none L && true) := by
  refine loop_adj oL.1 ?_ ?_ ?_
  ·intro k a ha
   have h0 : (0 : Int) = ((0 : Nat) : Int) := rfl
   rw [h0]
   simp only [F_impl_ValidItems_l0, int_lt (get_lt ha), bif_t, ix_get ha, Option.bind_some, ValidItem_eq (oL.2 a (get_mem ha)), nif]
   rfl
  ·intro i k q a hq ha hi
   simp only [F_impl_ValidItems_l0, int_lt (get_lt ha), bif_t, ix_get ha, Option.bind_some, ValidItem_eq (oL.2 a (get_mem ha)), nif, int_pos', w64_pred (show i < 9223372036854775807 by omega), w64_succ hi, ix_get hq, ← bytes_not (a := q.1) (b := a.1), itmBef]
  ·intro k; simp only [F_impl_ValidItems_l0, int_lt_self, bif_f]
 unfold F_impl_ValidItems itmsOk
 rw [e, dec_gt, nif, Bool.and_true]
 cases decide ((L.length : Int) ≤ 12)
 ·rw [bif_f, Bool.and_false]
 ·rw [bif_t, Bool.and_true]
def mrkOk (t : TNote) : Bool := decide (0 ≤ t.1 ∧ t.1 ≤ 2000) && decide (10 ≤ t.2 ∧ t.2 ≤ 600)
def mrkOk' (t : TNote) : Bool := decide (10 ≤ t.2 ∧ t.2 ≤ 600) && decide (t.1 ≤ 2000)
def mrkBef (a b : TNote) : Bool := decide (a.1 < b.1)
def first0 : List TNote → Bool
 | [] => false
 | a :: _ => decide (a.1 = 0)
def mrksOk (L : List TNote) : Bool := adj mrkOk mrkBef none L && (decide (1 ≤ (L.length : Int)) && (decide ((L.length : Int) ≤ 16) && first0 L))
theorem first_ge {L : List TNote} (h0 : first0 L = true) (hb : ∀ (i : Nat) x y, L[i]? = some x → L[i + 1]? = some y → mrkBef x y = true) : ∀ (i : Nat) x, L[i]? = some x → 0 ≤ x.1
 | 0, x, hx => by
  cases L with
  | nil => cases hx
  | cons a L =>
   simp only [List.getElem?_cons_zero, Option.some.injEq] at hx
   subst hx
   have : a.1 = 0 := of_decide_eq_true h0
   omega
 | i + 1, x, hx => by
  have hlt := (List.getElem?_eq_some_iff.1 hx).1
  obtain ⟨y, hy⟩ := get_some (L := L) (n := i) (by omega)
  have h1 := first_ge h0 hb i y hy
  have h2 : y.1 < x.1 := of_decide_eq_true (hb i y x hy hx)
  omega
theorem mrk_same {L : List TNote} (h0 : first0 L = true) : adj mrkOk' mrkBef none L = adj mrkOk mrkBef none L := by
 refine bool_ext ?_
 rw [adj_iff, adj_iff]
 constructor
 ·rintro ⟨h1, h2⟩
  refine ⟨fun x hx => ?_, h2⟩
  obtain ⟨i, hi⟩ := List.mem_iff_getElem?.1 hx
  have h3 := first_ge h0 h2 i x hi
  have h4 := h1 x hx
  unfold mrkOk' at h4
  simp only [Bool.and_eq_true, decide_eq_true_eq] at h4
  unfold mrkOk
  simp only [Bool.and_eq_true, decide_eq_true_eq]
  exact ⟨⟨h3, h4.2⟩, h4.1⟩
 ·rintro ⟨h1, h2⟩
  refine ⟨fun x hx => ?_, h2⟩
  have h4 := h1 x hx
  unfold mrkOk at h4
  simp only [Bool.and_eq_true, decide_eq_true_eq] at h4
  unfold mrkOk'
  simp only [Bool.and_eq_true, decide_eq_true_eq]
  exact ⟨h4.2, h4.1.2⟩
theorem l22Ok_eq {L : List TNote} (hL : L.length ≤ 9223372036854775807) : F_spec_l22Ok L = some (mrksOk L) := by
 unfold F_spec_l22Ok mrksOk
 refine loop_adj hL ?_ ?_ ?_
 ·intro k a ha
  have h0 : (0 : Int) = ((0 : Nat) : Int) := rfl
  rw [h0]
  simp only [F_spec_l22Ok_l0, F_spec_l22Beat, F_spec_l22Tempo, int_lt (get_lt ha), bif_t, ix_get ha, Option.bind_some, l00In_eq, nif, mrkOk]
  cases decide (0 ≤ a.1 ∧ a.1 ≤ 2000) <;> cases decide (10 ≤ a.2 ∧ a.2 ≤ 600) <;> rfl
 ·intro i k q a hq ha hi
  simp only [F_spec_l22Ok_l0, F_spec_l22Beat, F_spec_l22Tempo, int_lt (get_lt ha), bif_t, ix_get ha, Option.bind_some, l00In_eq, nif, int_pos', w64_pred (show i < 9223372036854775807 by omega), w64_succ hi, ix_get hq, mrkBef, mrkOk, dec_gt q.1 a.1, dec_le]
  cases decide (0 ≤ a.1 ∧ a.1 ≤ 2000) <;> cases decide (10 ≤ a.2 ∧ a.2 ≤ 600) <;> cases decide (q.1 < a.1) <;> rfl
 ·intro k
  simp only [F_spec_l22Ok_l0, int_lt_self, bif_f]
  cases L with
  | nil => rfl
  | cons a L =>
   have i0 : ix (a :: L) 0 = some a := rfl
   rw [i0, Option.bind_some]
   simp only [first0]
   cases decide ((1 : Int) ≤ ((a :: L).length : Int)) <;> cases decide (((a :: L).length : Int) ≤ 16) <;> rfl
theorem ValidTempo_eq {L : List TNote} (hL : L.length ≤ 9223372036854775807) : F_impl_ValidTempo L = some (mrksOk L) := by
 have e : loop (F_impl_ValidTempo_l0 L) 0 = some (adj mrkOk' mrkBef none L && true) := by
  refine loop_adj hL ?_ ?_ ?_
  ·intro k a ha
   have h0 : (0 : Int) = ((0 : Nat) : Int) := rfl
   rw [h0]
   simp only [F_impl_ValidTempo_l0, F_impl_tempoOk, int_lt (get_lt ha), bif_t, ix_get ha, Option.bind_some, within_eq, nif, mrkOk', dec_gt a.1 2000]
   cases decide (a.1 ≤ 2000) <;> cases decide (10 ≤ a.2 ∧ a.2 ≤ 600) <;> rfl
  ·intro i k q a hq ha hi
   simp only [F_impl_ValidTempo_l0, F_impl_tempoOk, int_lt (get_lt ha), bif_t, ix_get ha, Option.bind_some, within_eq, nif, int_pos', w64_pred (show i < 9223372036854775807 by omega), w64_succ hi, ix_get hq, mrkBef, mrkOk', dec_gt a.1 2000]
   have ed : decide (a.1 ≤ q.1) = !decide (q.1 < a.1) := by
    by_cases h : q.1 < a.1
    ·rw [decide_eq_true h, decide_eq_false (by omega)]; rfl
    ·rw [decide_eq_false h, decide_eq_true (by omega)]; rfl
   rw [ed, nif]
   cases decide (a.1 ≤ 2000) <;> cases decide (10 ≤ a.2 ∧ a.2 ≤ 600) <;> cases decide (q.1 < a.1) <;> rfl
  ·intro k; simp only [F_impl_ValidTempo_l0, int_lt_self, bif_f]
 unfold F_impl_ValidTempo mrksOk
 rw [e]
 cases L with
 | nil => rfl
 | cons a L =>
  have i0 : ix (a :: L) 0 = some a := rfl
  have h1 : decide (((a :: L).length : Int) < 1) = false := decide_eq_false (by rw [List.length_cons]; omega)
  have h2 : decide ((1 : Int) ≤ ((a :: L).length : Int)) = true := decide_eq_true (by rw [List.length_cons]; omega)
  rw [h1, h2, bif_f, i0, Option.bind_some, dec_gt, nif]
  cases h3 : decide (((a :: L).length : Int) ≤ 16)
  ·rw [bif_f]; simp
  ·rw [bif_t]
   by_cases h4 : a.1 = 0
   ·have hf : first0 (a :: L) = true := decide_eq_true h4
    rw [decide_eq_false (fun h => h h4), bif_f, mrk_same hf, hf]; simp
   ·have hf : first0 (a :: L) = false := decide_eq_false h4
    rw [decide_eq_true h4, bif_t, hf]; simp
end Go.Ab
set_option linter.unusedVariables false
set_option linter.unusedSimpArgs false
namespace Go.Ab
open Go.RowKit
theorem allWithin_eq {L : List Int} (hL : L.length ≤ 9223372036854775807) (lo hi : Int) : F_impl_allWithin L lo hi = some (L.all fun x => decide (lo ≤ x ∧ x ≤ hi)) := by
 unfold F_impl_allWithin F_slices_ContainsFunc_Sint64_int64 F_slices_IndexFunc_Sint64_int64
 obtain ⟨r, e, hr⟩ := loop_ex (body := F_slices_IndexFunc_Sint64_int64_l0 L lo hi) (L := L) (s0 := 0) (Q := fun r => (!decide (0 ≤ r)) = L.all fun x => decide (lo ≤ x ∧ x ≤ hi)) (fun i s => s = (i : Int) ∧ ∀ x ∈ L.take i, decide (lo ≤ x ∧ x ≤ hi) = true) hL ⟨rfl, by simp⟩
  (by
   rintro i _ k a ha hi2 ⟨rfl, hI⟩ hk
   simp only [F_slices_IndexFunc_Sint64_int64_l0, F_impl_allWithin_1, int_lt (get_lt ha), bif_t, ix_get ha, Option.bind_some, within_eq, w64_succ hi2, nif]
   cases hp : decide (lo ≤ a ∧ a ≤ hi)
   ·rw [bif_f]
    refine ⟨_, rfl, ?_⟩
    rw [decide_eq_true (by omega)]
    have : (L.all fun x => decide (lo ≤ x ∧ x ≤ hi)) = false := List.all_eq_false.2 ⟨a, get_mem ha, by rw [hp]; simp⟩
    rw [this]; rfl
   ·rw [bif_t]
    refine hk _ ⟨rfl, fun x hx => ?_⟩
    rw [take_succ ha] at hx
    rcases List.mem_append.1 hx with hx | hx
    ·exact hI x hx
    ·rw [List.mem_singleton.1 hx]; exact hp)
  (by
   rintro _ k ⟨rfl, hI⟩
   rw [take_all (Nat.le_refl _)] at hI
   simp only [F_slices_IndexFunc_Sint64_int64_l0, int_lt_self, bif_f]
   refine ⟨_, rfl, ?_⟩
   rw [List.all_eq_true.2 hI]; rfl)
 rw [e]
 simp only [Option.bind_some, hr]
def lexB : List Int → List Int → Bool
 | _, [] => false
 | [], _ :: _ => true
 | a :: s, b :: t => if a ≠ b then decide (a < b) else lexB s t
def cmpL : List Int → List Int → Int
 | [], [] => 0
 | [], _ :: _ => -1
 | _ :: _, [] => 1
 | a :: s, b :: t => if cmpI a b ≠ 0 then cmpI a b else cmpL s t
theorem cmpL_lex : ∀ a b : List Int, decide (0 ≤ cmpL a b) = !lexB a b
 | [], [] => rfl
 | [], _ :: _ => rfl
 | _ :: _, [] => rfl
 | a :: s, b :: t => by
  have ih := cmpL_lex s t
  have e1 : cmpL (a :: s) (b :: t) = (if cmpI a b ≠ 0 then cmpI a b else cmpL s t) := rfl
  have e2 : lexB (a :: s) (b :: t) = (if a ≠ b then decide (a < b) else lexB s t) := rfl
  rcases Int.lt_trichotomy a b with h | h | h
  ·have e : cmpI a b = -1 := by unfold cmpI; rw [if_pos h]
   have e3 : cmpL (a :: s) (b :: t) = -1 := by rw [e1, e]; rfl
   rw [e3, e2, if_pos (by omega), decide_eq_true h]; rfl
  ·subst h
   have e : cmpI a a = 0 := by unfold cmpI; rw [if_neg (by omega), if_neg (by omega)]
   have e3 : cmpL (a :: s) (a :: t) = cmpL s t := by rw [e1, e]; rfl
   rw [e3, e2, if_neg (fun h => h rfl)]; exact ih
  ·have e : cmpI a b = 1 := by unfold cmpI; rw [if_neg (by omega), if_pos h]
   have e3 : cmpL (a :: s) (b :: t) = 1 := by rw [e1, e]; rfl
   rw [e3, e2, if_pos (by omega), show decide (a < b) = false from decide_eq_false (by omega)]; rfl
theorem l06Before_eq {a b : List Int} (ha : a.length ≤ 9223372036854775807) : F_spec_l06Before a b = some (lexB a b) := by
 unfold F_spec_l06Before
 have := loop_at (body := F_spec_l06Before_l1 a b) (L := a) (fun i => lexB (a.drop i) (b.drop i)) ha ?_ ?_
 ·simpa using this
 ·intro i k x hx hi hk
  simp only [F_spec_l06Before_l1, F_spec_l06Before_j0, int_lt (get_lt hx), bif_t, ix_get hx, Option.bind_some, w64_succ hi, hk]
  rw [drop_cons hx]
  by_cases hb : i < b.length
  ·obtain ⟨y, hy⟩ := get_some hb
   rw [int_lt hb, bif_t, ix_get hy, Option.bind_some, drop_cons hy, Option.bind_some]
   simp only [lexB, bif_dec]
   split <;> rfl
  ·rw [decide_eq_false (by omega), bif_f, show b.drop i = [] from List.drop_eq_nil_of_le (by omega), decide_eq_false (by have := get_lt hx; omega)]
   rfl
 ·intro k
  simp only [F_spec_l06Before_l1, F_spec_l06Before_j0, int_lt_self, bif_f]
  rw [List.drop_length]
  by_cases hb : a.length < b.length
  ·obtain ⟨y, hy⟩ := get_some hb
   rw [drop_cons hy, decide_eq_true (by omega)]; rfl
  ·rw [show b.drop a.length = [] from List.drop_eq_nil_of_le (by omega), decide_eq_false (by omega)]; rfl
theorem CompareL_eq {a b : List Int} (ha : a.length ≤ 9223372036854775807) : F_slices_Compare_Sint64_int64 a b = some (cmpL a b) := by
 unfold F_slices_Compare_Sint64_int64
 have := loop_at (body := F_slices_Compare_Sint64_int64_l0 a b) (L := a) (fun i => cmpL (a.drop i) (b.drop i)) ha ?_ ?_
 ·simpa using this
 ·intro i k x hx hi hk
  simp only [F_slices_Compare_Sint64_int64_l0, int_lt (get_lt hx), bif_t, ix_get hx, Option.bind_some, w64_succ hi, hk]
  rw [drop_cons hx]
  by_cases hb : i < b.length
  ·obtain ⟨y, hy⟩ := get_some hb
   rw [decide_eq_false (by omega), bif_f, ix_get hy, Option.bind_some, drop_cons hy, cmpI_eq, Option.bind_some]
   simp only [cmpL, bif_dec]
   split <;> rfl
  ·rw [decide_eq_true (by omega), bif_t, show b.drop i = [] from List.drop_eq_nil_of_le (by omega)]
   rfl
 ·intro k
  simp only [F_slices_Compare_Sint64_int64_l0, int_lt_self, bif_f]
  rw [List.drop_length]
  by_cases hb : a.length < b.length
  ·obtain ⟨y, hy⟩ := get_some hb
   rw [drop_cons hy, decide_eq_true (by omega)]; rfl
  ·rw [show b.drop a.length = [] from List.drop_eq_nil_of_le (by omega), decide_eq_false (by omega)]; rfl
def phrOk (L : List Int) : Bool := (L.all fun x => decide (-12 ≤ x ∧ x ≤ 23)) && (decide ((2 : Int) ≤ (L.length : Int)) && decide ((L.length : Int) ≤ 8))
theorem l05Pitches_eq {L : List Int} (hL : L.length ≤ 9223372036854775807) : F_spec_l05Pitches L = some ((L.all fun x => decide (-12 ≤ x ∧ x ≤ 23)) && decide ((L.length : Int) ≤ 64)) := by
 unfold F_spec_l05Pitches
 have := loop_sfx (body := F_spec_l05Pitches_l0 L) (L := L) (fun t => (t.all fun x => decide (-12 ≤ x ∧ x ≤ 23)) && decide ((L.length : Int) ≤ 64)) hL ?_ ?_
 ·exact this
 ·intro i k a t ha hi hk
  simp only [F_spec_l05Pitches_l0, F_spec_l03Pitch, int_lt (get_lt ha), bif_t, ix_get ha, Option.bind_some, l00In_eq, w64_succ hi, nif, hk, List.all_cons]
  cases decide (-12 ≤ a ∧ a ≤ 23) <;> simp
 ·intro k
  simp only [F_spec_l05Pitches_l0, int_lt_self, bif_f]
  simp
theorem l06Phrase_eq {L : List Int} (hL : L.length ≤ 9223372036854775807) : F_spec_l06Phrase L = some (phrOk L) := by
 unfold F_spec_l06Phrase phrOk
 rw [l05Pitches_eq hL, Option.bind_some]
 cases (L.all fun x => decide (-12 ≤ x ∧ x ≤ 23))
 ·rfl
 ·by_cases h : (L.length : Int) ≤ 64
  ·rw [decide_eq_true h]
   cases decide ((2 : Int) ≤ (L.length : Int)) <;> rfl
  ·rw [decide_eq_false h, decide_eq_false (show ¬ (L.length : Int) ≤ 8 by omega)]
   simp
theorem phraseOk_eq {L : List Int} (hL : L.length ≤ 9223372036854775807) : F_impl_phraseOk L = some (phrOk L) := by
 unfold F_impl_phraseOk phrOk
 rw [allWithin_eq hL, Option.bind_some]
 cases decide ((2 : Int) ≤ (L.length : Int)) <;> cases decide ((L.length : Int) ≤ 8) <;> simp
def phrsOk (A : List (List Int)) : Bool := adj phrOk lexB none A && decide ((A.length : Int) ≤ 12)
theorem l06Ok_eq {L : List (List Int)} (oL : (OkL (OkL OkI)) L) : F_spec_l06Ok L = some (phrsOk L) := by
 unfold F_spec_l06Ok phrsOk
 refine loop_adj oL.1 ?_ ?_ ?_
 ·intro k a ha
  have h0 : (0 : Int) = ((0 : Nat) : Int) := rfl
  rw [h0]
  simp only [F_spec_l06Ok_l0, int_lt (get_lt ha), bif_t, ix_get ha, Option.bind_some, l06Phrase_eq (oL.2 a (get_mem ha)).1, nif]
  rfl
 ·intro i k q a hq ha hi
  simp only [F_spec_l06Ok_l0, int_lt (get_lt ha), bif_t, ix_get ha, Option.bind_some, l06Phrase_eq (oL.2 a (get_mem ha)).1, nif, int_pos', w64_pred (show i < 9223372036854775807 by omega), w64_succ hi, ix_get hq, l06Before_eq (oL.2 q (get_mem hq)).1]
 ·intro k; simp only [F_spec_l06Ok_l0, int_lt_self, bif_f]
theorem ValidPhrases_eq {L : List (List Int)} (oL : (OkL (OkL OkI)) L) : F_impl_ValidPhrases L = some (phrsOk L) := by
 have e : loop (F_impl_ValidPhrases_l0 L) 0 = some (adj phrOk lexB none L && true) := by
  refine loop_adj oL.1 ?_ ?_ ?_
  ·intro k a ha
   have h0 : (0 : Int) = ((0 : Nat) : Int) := rfl
   rw [h0]
   simp only [F_impl_ValidPhrases_l0, int_lt (get_lt ha), bif_t, ix_get ha, Option.bind_some, phraseOk_eq (oL.2 a (get_mem ha)).1, nif]
   rfl
  ·intro i k q a hq ha hi
   simp only [F_impl_ValidPhrases_l0, int_lt (get_lt ha), bif_t, ix_get ha, Option.bind_some, phraseOk_eq (oL.2 a (get_mem ha)).1, nif, int_pos', w64_pred (show i < 9223372036854775807 by omega), w64_succ hi, ix_get hq, CompareL_eq (oL.2 q (get_mem hq)).1, cmpL_lex]
  ·intro k; simp only [F_impl_ValidPhrases_l0, int_lt_self, bif_f]
 unfold F_impl_ValidPhrases phrsOk
 rw [e, dec_gt, nif, Bool.and_true]
 cases decide ((L.length : Int) ≤ 12)
 ·rw [bif_f, Bool.and_false]
 ·rw [bif_t, Bool.and_true]
theorem gcd_same : F_spec_l02Gcd_l0 = F_impl_commonDivisor_l0 := by
 funext k st
 obtain ⟨a, b⟩ := st
 rfl
noncomputable def gcdV (a b : Int) : Int := (F_impl_commonDivisor a b).getD 0
theorem gcd_ex {a b : Int} (ha : 0 ≤ a) (hb : 0 ≤ b ∧ b ≤ 1000000) : F_impl_commonDivisor a b = some (gcdV a b) := by
 have key : ∃ r, F_impl_commonDivisor a b = some r ∧ True := by
  unfold F_impl_commonDivisor
  refine loop_mu (fun st => 0 ≤ st.1 ∧ 0 ≤ st.2) (fun st => st.2.toNat) ⟨ha, hb.1⟩ (lt_lim (by dsimp only; omega)) ?_
  rintro ⟨x, y⟩ k ⟨h1, h2⟩ hk
  dsimp only at h1 h2 hk
  simp only [F_impl_commonDivisor_l0]
  by_cases h : y = 0
  ·rw [decide_eq_false (fun h' => h' h), bif_f]; exact ⟨_, rfl, trivial⟩
  ·rw [decide_eq_true h, bif_t, need_true h]
   have e : Int.tmod x y = x % y := Int.tmod_eq_emod_of_nonneg h1
   have l1 := Int.emod_nonneg x h
   have l2 := Int.emod_lt_of_pos x (show 0 < y by omega)
   exact hk _ ⟨h2, by dsimp only; omega⟩ (by dsimp only; omega)
 obtain ⟨r, hr, _⟩ := key
 unfold gcdV
 rw [hr]; rfl
def ratIn (a : TNote) : Bool := decide (1 ≤ a.1 ∧ a.1 ≤ 1000000) && decide (1 ≤ a.2 ∧ a.2 ≤ 1000000)
noncomputable def ratOk (a : TNote) : Bool := ratIn a && decide (gcdV a.1 a.2 = 1)
theorem l02Ok_eq (a : TNote) : F_spec_l02Ok a = some (ratOk a) := by
 unfold F_spec_l02Ok F_spec_l02Part ratOk ratIn F_spec_l02Gcd
 rw [gcd_same]
 simp only [l00In_eq, Option.bind_some]
 by_cases h1 : 1 ≤ a.1 ∧ a.1 ≤ 1000000
 ·by_cases h2 : 1 ≤ a.2 ∧ a.2 ≤ 1000000
  ·have := gcd_ex (a := a.1) (b := a.2) (by omega) ⟨by omega, h2.2⟩
   unfold F_impl_commonDivisor at this
   rw [decide_eq_true h1, decide_eq_true h2, this]; rfl
  ·rw [decide_eq_true h1, decide_eq_false h2]; rfl
 ·rw [decide_eq_false h1]; rfl
theorem ValidRatio_eq (a : TNote) : F_impl_ValidRatio a = some (ratOk a) := by
 unfold F_impl_ValidRatio ratOk ratIn
 simp only [within_eq, Option.bind_some]
 by_cases h1 : 1 ≤ a.1 ∧ a.1 ≤ 1000000
 ·by_cases h2 : 1 ≤ a.2 ∧ a.2 ≤ 1000000
  ·rw [decide_eq_true h1, decide_eq_true h2, gcd_ex (a := a.1) (b := a.2) (by omega) ⟨by omega, h2.2⟩]; rfl
  ·rw [decide_eq_true h1, decide_eq_false h2]; rfl
 ·rw [decide_eq_false h1]; rfl
noncomputable def tunOne (a : TNote) : Bool := ratOk a && !decide (w64 (2 * a.2) ≤ a.1)
def tunBef (q a : TNote) : Bool := decide (w64 (q.1 * a.2) < w64 (a.1 * q.2))
theorem specCmp (q a : TNote) : ∃ c, F_spec_l02Compare q a = some c ∧ decide (0 ≤ c) = !tunBef q a := by
 unfold F_spec_l02Compare tunBef
 by_cases h : w64 (q.1 * a.2) < w64 (a.1 * q.2)
 ·rw [decide_eq_true h, bif_t]; exact ⟨_, rfl, rfl⟩
 ·rw [decide_eq_false h, bif_f]
  cases decide (w64 (a.1 * q.2) < w64 (q.1 * a.2))
  ·exact ⟨_, rfl, rfl⟩
  ·exact ⟨_, rfl, rfl⟩
theorem implCmp (q a : TNote) : ∃ c, F_impl_Ratio_compare a q = some c ∧ decide (c ≤ 0) = !tunBef q a := by
 refine ⟨cmpI (w64 (a.1 * q.2)) (w64 (q.1 * a.2)), ?_, ?_⟩
 ·unfold F_impl_Ratio_compare
  rw [cmpI_eq]; rfl
 ·unfold cmpI tunBef
  by_cases h : w64 (q.1 * a.2) < w64 (a.1 * q.2)
  ·rw [if_neg (by omega), if_pos h, decide_eq_true h]; rfl
  ·rw [decide_eq_false h]
   by_cases h2 : w64 (a.1 * q.2) < w64 (q.1 * a.2)
   ·rw [if_pos h2]; rfl
   ·rw [if_neg h2, if_neg h]; rfl
def one1 : List TNote → Bool
 | [] => false
 | a :: _ => decide (a.1 = 1) && decide (a.2 = 1)
noncomputable def tunOk (t : TTuning) : Bool := nameOk t.1 && (decide ((t.2.length : Int) = 12) && (adj tunOne tunBef none t.2 && one1 t.2))
theorem l04Ok_eq {t : TTuning} (o0 : OkS t.1) (o1 : t.2.length ≤ 9223372036854775807) : F_spec_l04Ok t = some (tunOk t) := by
 unfold F_spec_l04Ok tunOk
 rw [l01Name_eq _ o0, Option.bind_some, nif]
 cases nameOk t.1
 ·rfl
 rw [bif_t, Bool.true_and]
 by_cases hl : (t.2.length : Int) = 12
 ·rw [decide_eq_false (fun h => h hl), bif_f, decide_eq_true hl, Bool.true_and]
  refine loop_adj o1 ?_ ?_ ?_
  ·intro k a ha
   have h0 : (0 : Int) = ((0 : Nat) : Int) := rfl
   rw [h0]
   simp only [F_spec_l04Ok_l0, int_lt (get_lt ha), bif_t, ix_get ha, Option.bind_some, l02Ok_eq, nif, tunOne]
   cases ratOk a <;> cases decide (w64 (2 * a.2) ≤ a.1) <;> rfl
  ·intro i k q a hq ha hi
   obtain ⟨c, e1, e2⟩ := specCmp q a
   simp only [F_spec_l04Ok_l0, int_lt (get_lt ha), bif_t, ix_get ha, Option.bind_some, l02Ok_eq, nif, int_pos', w64_pred (show i < 9223372036854775807 by omega), w64_succ hi, ix_get hq, e1, e2, tunOne]
   cases ratOk a <;> cases decide (w64 (2 * a.2) ≤ a.1) <;> rfl
  ·intro k
   simp only [F_spec_l04Ok_l0, int_lt_self, bif_f]
   cases hT : t.2 with
   | nil => rw [hT] at hl; simp at hl
   | cons a L =>
    have i0 : ix (a :: L) 0 = some a := rfl
    rw [i0, Option.bind_some, Option.bind_some]
    simp only [one1]
    cases decide (a.1 = 1) <;> rfl
 ·rw [decide_eq_true hl, bif_t, decide_eq_false hl]; rfl
theorem ValidTuning_eq {t : TTuning} (o0 : OkS t.1) (o1 : t.2.length ≤ 9223372036854775807) : F_impl_ValidTuning t = some (tunOk t) := by
 unfold F_impl_ValidTuning tunOk
 rw [IsName_eq _ o0, Option.bind_some, nif]
 cases nameOk t.1
 ·rfl
 rw [bif_t, Bool.true_and]
 by_cases hl : (t.2.length : Int) = 12
 ·rw [decide_eq_false (fun h => h hl), bif_f, decide_eq_true hl, Bool.true_and]
  have e : loop (F_impl_ValidTuning_l0 t) 0 = some (adj tunOne tunBef none t.2 && true) := by
   refine loop_adj o1 ?_ ?_ ?_
   ·intro k a ha
    have h0 : (0 : Int) = ((0 : Nat) : Int) := rfl
    rw [h0]
    simp only [F_impl_ValidTuning_l0, int_lt (get_lt ha), bif_t, ix_get ha, Option.bind_some, ValidRatio_eq, nif, tunOne]
    cases ratOk a <;> cases decide (w64 (2 * a.2) ≤ a.1) <;> rfl
   ·intro i k q a hq ha hi
    obtain ⟨c, e1, e2⟩ := implCmp q a
    simp only [F_impl_ValidTuning_l0, int_lt (get_lt ha), bif_t, ix_get ha, Option.bind_some, ValidRatio_eq, nif, int_pos', w64_pred (show i < 9223372036854775807 by omega), w64_succ hi, ix_get hq, e1, e2, tunOne]
    cases ratOk a <;> cases decide (w64 (2 * a.2) ≤ a.1) <;> rfl
   ·intro k; simp only [F_impl_ValidTuning_l0, int_lt_self, bif_f]
  rw [e, Bool.and_true]
  cases hT : t.2 with
  | nil => rw [hT] at hl; simp at hl
  | cons a L =>
   have i0 : ix (a :: L) 0 = some a := rfl
   rw [i0, Option.bind_some, nif, Bool.and_true]
   simp only [one1]
   cases (decide (a.1 = 1) && decide (a.2 = 1))
   ·rw [bif_f, Bool.and_false]
   ·rw [bif_t, Bool.and_true]
 ·rw [decide_eq_true hl, bif_t, decide_eq_false hl]; rfl
end Go.Ab
set_option linter.unusedVariables false
set_option linter.unusedSimpArgs false
namespace Go.Ab
open Go.RowKit
def atP : List TPerson → List UInt8 → Int
 | [], _ => -1
 | p :: A, n => if p.1 = n then 0 else if atP A n < 0 then -1 else atP A n + 1
theorem atP_lt (A : List TPerson) (n : List UInt8) : -1 ≤ atP A n ∧ atP A n < A.length := by
 induction A with
 | nil => simp [atP]
 | cons p A ih =>
  simp only [atP, List.length_cons]
  split
  ·omega
  ·split <;> omega
theorem atP_loop {A : List TPerson} {n : List UInt8} {body : (Int → Option Int) → Int → Option Int} (hA : A.length ≤ 9223372036854775807)
  (more : ∀ (i : Nat) k a, A[i]? = some a → i < 9223372036854775807 → body k (i : Int) = bif decide (a.1 = n) then some (i : Int) else k ((i + 1 : Nat) : Int))
  (done : ∀ k, body k (A.length : Int) = some (-1)) : loop body 0 = some (atP A n) := by
 have := loop_at (L := A) (body := body) (fun i => if atP (A.drop i) n < 0 then -1 else (i : Int) + atP (A.drop i) n) hA ?_ ?_
 ·rw [this]
  simp only [List.drop_zero]
  have := atP_lt A n
  split <;> congr 1 <;> omega
 ·intro i k a ha hi hk
  rw [more i k a ha hi, drop_cons ha]
  simp only [bif_dec, atP]
  split
  ·simp
  ·rw [hk]
   have := atP_lt (A.drop (i + 1)) n
   split <;> congr 1
   split <;> omega
 ·intro k
  rw [done, List.drop_length]
  rfl
theorem l30Find_eq (A : List TPerson) (n : List UInt8) (hA : A.length ≤ 9223372036854775807) : F_spec_l30Find A n = some (atP A n) := by
 unfold F_spec_l30Find
 refine atP_loop hA ?_ ?_
 ·intro i k a ha hi
  simp only [F_spec_l30Find_l0, int_lt (get_lt ha), ix_get ha, Option.bind_some, bif_t, w64_succ hi]
 ·intro k; simp [F_spec_l30Find_l0]
theorem personAt_eq (A : List TPerson) (n : List UInt8) (hA : A.length ≤ 9223372036854775807) : F_impl_personAt A n = some (atP A n) := by
 unfold F_impl_personAt F_slices_IndexFunc_SPerson_Person
 rw [atP_loop hA]
 ·rfl
 ·intro i k a ha hi
  simp only [F_slices_IndexFunc_SPerson_Person_l0, F_impl_personAt_1, int_lt (get_lt ha), ix_get ha, Option.bind_some, bif_t, w64_succ hi]
 ·intro k; simp [F_slices_IndexFunc_SPerson_Person_l0]
abbrev OkPersons (A : List TPerson) : Prop := OkL OkPerson A
theorem ix_mem {α : Type} {L : List α} {n : Int} {a : α} (h : ix L n = some a) : a ∈ L := List.mem_of_getElem? (ix_some h).2
theorem ok_inner {A : List TPerson} (hA : OkPersons A) (i : Int) (p : TPerson) (k : Int → Option Bool) : F_spec_l30Ok_l2 A p i k = F_impl_ValidPersons_l2 A p i k := by
 funext k1 j
 unfold F_spec_l30Ok_l2 F_impl_ValidPersons_l2
 cases h1 : ix p.2.2 j with
 | none => simp only [h1, Option.bind_none]
 | some n =>
  simp only [h1, Option.bind_some, l30Find_eq A n hA.1, personAt_eq A n hA.1, bytes_not]
theorem ok_round {A : List TPerson} (hA : OkPersons A) (h24 : A.length ≤ 24) (k : Int → Option Bool) (i : Int) : F_spec_l30Ok_l0 A k i = F_impl_ValidPersons_l0 A k i := by
 unfold F_spec_l30Ok_l0 F_impl_ValidPersons_l0
 rw [decide_eq_true (p := (A.length : Int) ≤ 24) (by omega)]
 cases h1 : ix A i with
 | none => simp only [h1, Option.bind_none]
 | some p =>
  simp only [h1, Option.bind_some, l01Name_eq p.1 (hA.2 p (ix_mem h1)).1, IsName_eq p.1 (hA.2 p (ix_mem h1)).1, l00In_eq, within_eq, bytes_not, F_spec_l30Ok_j1, F_impl_ValidPersons_j1, ok_inner hA]
structure PP (A : List TPerson) (p : TPerson) : Prop where
 name : nameOk p.1 = true
 born : 0 ≤ p.2.1 ∧ p.2.1 ≤ 3000
 few : p.2.2.length ≤ 4
 tch : ∀ t ∈ p.2.2, ∃ q, 0 ≤ atP A t ∧ ix A (atP A t) = some q ∧ q.2.1 < p.2.1
 srt : ∀ (j : Nat) x y, p.2.2[j]? = some x → p.2.2[j + 1]? = some y → Op.bytesLess x y = true
structure VP (A : List TPerson) : Prop where
 len : A.length ≤ 24
 each : ∀ p ∈ A, PP A p
 srt : ∀ (j : Nat) x y, A[j]? = some x → A[j + 1]? = some y → Op.bytesLess x.1 y.1 = true
theorem l30Ok_vp {A : List TPerson} (hA : OkPersons A) : ∃ r, F_spec_l30Ok A = some r ∧ (r = true → VP A) := by
 unfold F_spec_l30Ok
 refine loop_ex (L := A) (fun i s => s = (i : Int) ∧ (∀ p ∈ A.take i, PP A p) ∧ ∀ (j : Nat) x y, j + 1 < i → A[j]? = some x → A[j + 1]? = some y → Op.bytesLess x.1 y.1 = true) hA.1 ⟨rfl, by simp, fun _ _ _ h => by omega⟩ ?_ ?_
 ·rintro i _ k p hp hi ⟨rfl, hI, hS⟩ hk
  have ho := hA.2 p (get_mem hp)
  have hpl : p.2.2.length ≤ 9223372036854775807 := ho.2.2.1
  have inner : nameOk p.1 = true → (0 ≤ p.2.1 ∧ p.2.1 ≤ 3000) → p.2.2.length ≤ 4 → (∀ (j : Nat) x, j + 1 = i → A[j]? = some x → Op.bytesLess x.1 p.1 = true) → ∃ r, F_spec_l30Ok_j1 A p (i : Int) k = some r ∧ (r = true → VP A) := by
   intro hn hb hf hprev
   unfold F_spec_l30Ok_j1
   refine loop_ex (L := p.2.2) (fun j s => s = (j : Int) ∧ (∀ t ∈ p.2.2.take j, ∃ q, 0 ≤ atP A t ∧ ix A (atP A t) = some q ∧ q.2.1 < p.2.1) ∧ ∀ (m : Nat) x y, m + 1 < j → p.2.2[m]? = some x → p.2.2[m + 1]? = some y → Op.bytesLess x y = true) hpl ⟨rfl, by simp, fun _ _ _ h => by omega⟩ ?_ ?_
   ·rintro j _ k1 n hn hj ⟨rfl, hJ, hT⟩ hk1
    have hat := atP_lt A n
    simp only [F_spec_l30Ok_l2, int_lt (get_lt hn), ix_get hn, Option.bind_some, bif_t, l30Find_eq A n hA.1, w64_succ hj, bif_dec]
    split
    ·exact ⟨_, rfl, fun h => by cases h⟩
    ·obtain ⟨q, hq⟩ := get_some (L := A) (n := (atP A n).toNat) (by omega)
     have e : ix A (atP A n) = some q := by unfold ix; rw [if_pos (by omega)]; exact hq
     simp only [e, Option.bind_some, bif_dec]
     split
     ·exact ⟨_, rfl, fun h => by cases h⟩
     ·have hJ' : ∀ t ∈ p.2.2.take (j + 1), ∃ q, 0 ≤ atP A t ∧ ix A (atP A t) = some q ∧ q.2.1 < p.2.1 := by
       intro t ht
       rw [take_succ hn] at ht
       rcases List.mem_append.1 ht with ht | ht
       ·exact hJ t ht
       ·rw [List.mem_singleton.1 ht]; exact ⟨q, by omega, e, by omega⟩
      split
      ·rename_i h0
       obtain ⟨j', rfl⟩ : ∃ j', j = j' + 1 := ⟨j - 1, by omega⟩
       obtain ⟨m, hm⟩ := get_some (L := p.2.2) (n := j') (by have := get_lt hn; omega)
       rw [w64_pred (by omega), ix_get hm]
       simp only [Option.bind_some]
       cases hless : Op.bytesLess m n
       ·exact ⟨_, rfl, fun h => by cases h⟩
       ·refine hk1 _ ⟨rfl, hJ', ?_⟩
        intro a x y ha hx hy
        by_cases h2 : a + 1 = j' + 1
        ·have : a = j' := by omega
         subst this
         rw [hm] at hx; rw [hn] at hy
         simp only [Option.some.injEq] at hx hy
         subst hx; subst hy; exact hless
        ·exact hT a x y (by omega) hx hy
      ·exact hk1 _ ⟨rfl, hJ', fun a x y ha hx hy => by omega⟩
   ·rintro _ k1 ⟨rfl, hJ, hT⟩
    simp only [F_spec_l30Ok_l2, int_lt_self, bif_f, w64_succ hi]
    rw [take_all (Nat.le_refl _)] at hJ
    refine hk _ ⟨rfl, ?_, ?_⟩
    ·intro x hx
     rw [take_succ hp] at hx
     rcases List.mem_append.1 hx with hx | hx
     ·exact hI x hx
     ·rw [List.mem_singleton.1 hx]
      exact ⟨hn, hb, hf, hJ, fun j x y hx hy => hT j x y (get_lt hy) hx hy⟩
    ·intro j x y hj hx hy
     by_cases h2 : j + 1 = i
     ·rw [h2, hp] at hy
      simp only [Option.some.injEq] at hy
      subst hy; exact hprev j x h2 hx
     ·exact hS j x y (by omega) hx hy
  simp only [F_spec_l30Ok_l0, int_lt (get_lt hp), ix_get hp, Option.bind_some, bif_t, l01Name_eq p.1 ho.1, l00In_eq, bif_dec]
  cases hn : nameOk p.1
  ·exact ⟨_, rfl, fun h => by cases h⟩
  simp only [Bool.not_true, bif_f, ← decide_not, bif_dec]
  split
  ·exact ⟨_, rfl, fun h => by cases h⟩
  split
  ·exact ⟨_, rfl, fun h => by cases h⟩
  split
  ·obtain ⟨i', rfl⟩ : ∃ i', i = i' + 1 := ⟨i - 1, by omega⟩
   obtain ⟨m, hm⟩ := get_some (L := A) (n := i') (by have := get_lt hp; omega)
   rw [w64_pred (by omega), ix_get hm]
   simp only [Option.bind_some]
   cases hless : Op.bytesLess m.1 p.1
   ·exact ⟨_, rfl, fun h => by cases h⟩
   ·refine inner hn (by omega) (by omega) ?_
    intro j x hj hx
    have : j = i' := by omega
    subst this
    rw [hm] at hx
    simp only [Option.some.injEq] at hx
    subst hx; exact hless
  ·exact inner hn (by omega) (by omega) (fun j x hj hx => by omega)
 ·rintro _ k ⟨rfl, hI, hS⟩
  simp only [F_spec_l30Ok_l0, int_lt_self, bif_f]
  rw [take_all (Nat.le_refl _)] at hI
  exact ⟨_, rfl, fun h => ⟨by have := of_decide_eq_true h; omega, hI, fun j x y hx hy => hS j x y (get_lt hy) hx hy⟩⟩
theorem l30Ok_some {A : List TPerson} (hA : OkPersons A) : ∃ r, F_spec_l30Ok A = some r ∧ (24 < A.length → r = false) := by
 obtain ⟨r, h1, h2⟩ := l30Ok_vp hA
 refine ⟨r, h1, fun h => ?_⟩
 cases r
 ·rfl
 ·have := (h2 rfl).len; omega
theorem valid_eq {A : List TPerson} (hA : OkPersons A) : ∃ r, F_spec_l30Ok A = some r ∧ F_impl_ValidPersons A = some r ∧ (r = true → VP A) := by
 obtain ⟨r, h1, h3⟩ := l30Ok_vp hA
 obtain ⟨r', h1', h2⟩ := l30Ok_some hA
 rw [h1] at h1'
 simp only [Option.some.injEq] at h1'
 subst h1'
 refine ⟨r, h1, ?_, h3⟩
 unfold F_impl_ValidPersons
 rw [bif_dec]
 split
 ·rw [h2 (by omega)]
 ·rw [← h1]
  unfold F_spec_l30Ok
  have : F_spec_l30Ok_l0 A = F_impl_ValidPersons_l0 A := by funext k i; exact ok_round hA (by omega) k i
  rw [this]
end Go.Ab
set_option linter.unusedVariables false
set_option linter.unusedSimpArgs false
namespace Go.Ab
open Go.RowKit
theorem core_ValidDesk (a : TDesk) (o : OkDesk a) (s : SmDesk a) : ∃ w, F_spec_ValidDesk a = some w ∧ F_impl_ValidDesk a = some w ∧ True := by
 obtain ⟨oR, o6, oT, o9, o10, o11, o12, o13, o14⟩ := o
 obtain ⟨_, _, _, _, _, _, _, s13, _⟩ := s
 obtain ⟨r1, e1, e2, _⟩ := lessons_eq o13 (by have := s13.1; omega)
 obtain ⟨r2, e3, e4, _⟩ := valid_eq o14
 unfold F_spec_ValidDesk F_spec_l32Ok F_impl_ValidDesk
 rw [l05Ok_eq oR, ValidRaga_eq oR, l09Ok_eq o6.1, ValidMelody_eq o6.1, l04Ok_eq (t := (a.2.2.2.2.2.2.2.1, a.2.2.2.2.2.2.2.2.1)) oT.1 oT.2.1, ValidTuning_eq (t := (a.2.2.2.2.2.2.2.1, a.2.2.2.2.2.2.2.2.1)) oT.1 oT.2.1, l06Ok_eq o9, ValidPhrases_eq o9, l18Ok_eq o10, ValidSyllables_eq o10, l22Ok_eq o11.1, ValidTempo_eq o11.1, l08Ok_eq o12, ValidItems_eq o12, e1, e2, e3, e4]
 simp only [Option.bind_some]
 cases ragaOk (a.1, a.2.1, a.2.2.1, a.2.2.2.1, a.2.2.2.2.1, a.2.2.2.2.2.1)
 ·exact ⟨false, rfl, rfl, trivial⟩
 cases melOk a.2.2.2.2.2.2.1
 ·exact ⟨false, rfl, rfl, trivial⟩
 cases tunOk (a.2.2.2.2.2.2.2.1, a.2.2.2.2.2.2.2.2.1)
 ·exact ⟨false, rfl, rfl, trivial⟩
 cases phrsOk a.2.2.2.2.2.2.2.2.2.1
 ·exact ⟨false, rfl, rfl, trivial⟩
 cases sylsOk a.2.2.2.2.2.2.2.2.2.2.1
 ·exact ⟨false, rfl, rfl, trivial⟩
 cases mrksOk a.2.2.2.2.2.2.2.2.2.2.2.1
 ·exact ⟨false, rfl, rfl, trivial⟩
 cases itmsOk a.2.2.2.2.2.2.2.2.2.2.2.2.1
 ·exact ⟨false, rfl, rfl, trivial⟩
 cases r1
 ·exact ⟨false, rfl, rfl, trivial⟩
 exact ⟨r2, rfl, rfl, trivial⟩
end Go.Ab
