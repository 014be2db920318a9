import Derived.Test.YtcklbccpfpnmbaaGreatDoorPL
import Derived.Test.YtcklbccpfpnmbaaGreatDoorPS
import Derived.Sort.Walk0
import Derived.Lib.ItoaNum
import Derived.Test.YtcklbccpfpnmbaaGreatDoorGT
namespace Go.Ab
abbrev Str := List UInt8
end Go.Ab
set_option linter.unusedVariables false
set_option linter.unusedSimpArgs false
namespace Go.Ab
open Go.RowKit
def nb (b : UInt8) : Bool := decide ((97 ≤ b.toNat ∧ b.toNat ≤ 122) ∨ (48 ≤ b.toNat ∧ b.toNat ≤ 57))
def b6i : List UInt8 → Bool
 | [] => false
 | b :: _ => decide (97 ≤ b.toNat ∧ b.toNat ≤ 122)
def O2 (s : List UInt8) : Bool := decide (s.length ≤ 10) && (b6i s && s.all nb)
theorem b1m (c : Int) : T9 c = some (decide (97 ≤ c ∧ c ≤ 122)) := by
 unfold T9
 by_cases h : 97 ≤ c <;> simp [h]
theorem b7c (c : Int) : a0u c = some (decide (48 ≤ c ∧ c ≤ 57)) := by
 unfold a0u
 by_cases h : 48 ≤ c <;> simp [h]
theorem a0O (s : List UInt8) (hs : s.length ≤ 9223372036854775807) : F6 s = some (O2 s) := by
 unfold F6
 cases s with
 | nil => rfl
 | cons b t =>
  have e : loop (N3 (b :: t)) 0 = some ((b :: t).all nb) := by
   refine a0A nb hs ?_ ?_
   ·intro i k a ha hi
    simp only [N3, y9 (w8 ha), r9 ha, Option.bind_some, y7, b1m, b7c, w7 hi, ← decide_not, A4, nb]
    repeat' split
    all_goals first | rfl | (exfalso; omega)
   ·intro k; simp [N3]
  rw [e]
  simp only [reduceCtorEq, decide_false, A0, b9O, Option.bind_some, b1m, ← decide_not, A4, O2, b6i]
  split
  ·rename_i h; rw [decide_eq_false (by omega)]; rfl
  ·rename_i h
   rw [decide_eq_true (by omega)]
   split
   ·rename_i h2; rw [decide_eq_false (by omega)]; rfl
   ·rename_i h2; rw [decide_eq_true (by omega)]; rfl
theorem b1e (s : List UInt8) (hs : s.length ≤ 9223372036854775807) : N2 s = some (s.all nb) := by
 unfold N2
 refine a0A nb hs ?_ ?_
 ·intro i k a ha hi
  simp only [H8, y9 (w8 ha), r9 ha, Option.bind_some, y7, w7 hi, A4, nb]
  repeat' split
  all_goals first | rfl | (exfalso; omega)
 ·intro k; simp [H8]
theorem a2I (s : List UInt8) (hs : s.length ≤ 9223372036854775807) : H1 s = some (O2 s) := by
 unfold H1
 rw [b1e s hs]
 cases s with
 | nil => rfl
 | cons b t =>
  simp only [b9O, Option.bind_some, A4, O2, b6i]
  split
  ·rename_i h; simp at h; omega
  ·split
   ·rename_i h; rw [decide_eq_false (by omega)]; rfl
   ·rename_i h
    rw [decide_eq_true (by omega)]
    split
    ·rename_i h2; rw [decide_eq_false (by omega)]; rfl
    ·split
     ·rename_i h2; rw [decide_eq_false (by omega)]; rfl
     ·rw [decide_eq_true (by omega)]; rfl
end Go.Ab
set_option linter.unusedVariables false
set_option linter.unusedSimpArgs false
namespace Go.Ab
open Go.RowKit
section
variable {α : Type}
def adj (one : α → Bool) (bef : α → α → Bool) : Option α → List α → Bool
 | _, [] => true
 | none, x :: t => one x && adj one bef (some x) t
 | some q, x :: t => one x && (bef q x && adj one bef (some x) t)
def b5a (A : List α) : Nat → Option α
 | 0 => none
 | n + 1 => A[n]?
theorem T4 {A : List α} {one : α → Bool} {bef : α → α → Bool} {fin : Bool} {body : (Int → Option Bool) → Int → Option Bool} (hA : A.length ≤ 9223372036854775807)
  (first : ∀ k a, A[0]? = some a → body k 0 = bif one a then k 1 else some false)
  (more : ∀ (i : Nat) k q a, A[i]? = some q → A[i + 1]? = some a → i + 1 < 9223372036854775807 → body k ((i + 1 : Nat) : Int) = bif one a then (bif bef q a then k ((i + 2 : Nat) : Int) else some false) else some false)
  (done : ∀ k, body k (A.length : Int) = some fin) : loop body 0 = some (adj one bef none A && fin) := by
 have := a9n (L := A) (body := body) (fun i => adj one bef (b5a A i) (A.drop i) && fin) hA ?_ ?_
 ·exact this
 ·intro i k a ha hi hk
  rw [L3 ha]
  cases i with
  | zero =>
   have h1 := first k a ha
   have hp : b5a A 1 = some a := ha
   rw [hp] at hk
   show body k 0 = _
   rw [h1]
   simp only [b5a, adj]
   cases one a
   ·rfl
   ·exact hk
  | succ n =>
   obtain ⟨q, hq⟩ := C5 (L := A) (n := n) (by have := w8 ha; omega)
   have h1 := more n k q a hq ha hi
   have hp : b5a A (n + 1 + 1) = some a := ha
   rw [hp] at hk
   rw [h1]
   simp only [b5a, hq, adj]
   cases one a
   ·rfl
   ·cases bef q a
    ·rfl
    ·exact hk
 ·intro k
  rw [done, List.drop_length]
  cases b5a A A.length <;> simp [adj]
end
theorem b6b {α : Type} {one : α → Bool} {bef : α → α → Bool} : ∀ {A : List α} {p : Option α}, adj one bef p A = true → (∀ x ∈ A, one x = true) ∧ (∀ (i : Nat) x y, A[i]? = some x → A[i + 1]? = some y → bef x y = true)
 | [], p, h => by simp
 | a :: A, p, h => by
  have h2 : one a = true ∧ adj one bef (some a) A = true := by
   cases p with
   | none => simpa [adj] using h
   | some q => simp [adj] at h; exact ⟨h.1, h.2.2⟩
  obtain ⟨k1, k2⟩ := b6b (A := A) h2.2
  refine ⟨fun x hx => ?_, fun i x y hx hy => ?_⟩
  ·rcases List.mem_cons.1 hx with h | h
   ·rw [h]; exact h2.1
   ·exact k1 x h
  ·cases i with
   | zero =>
    simp at hx hy; subst hx
    cases A with
    | nil => simp at hy
    | cons b A =>
     simp at hy; subst hy
     have := h2.2
     simp [adj] at this; exact this.2.1
   | succ i => simp at hx hy; exact k2 i x y hx hy
end Go.Ab
set_option linter.unusedVariables false
set_option linter.unusedSimpArgs false
namespace Go.Ab
open Go.RowKit
theorem P0 (a b c : Int) : C0 a b c = some (decide (b ≤ a ∧ a ≤ c)) := by
 unfold C0
 by_cases h : b ≤ a <;> simp [h]
theorem N5 (a b c : Int) : B3 a b c = some (decide (b ≤ a ∧ a ≤ c)) := by
 unfold B3
 by_cases h : b ≤ a <;> simp [h]
end Go.Ab
set_option linter.unusedVariables false
set_option linter.unusedSimpArgs false
namespace Go.Ab
open Go.RowKit
def b0B (L : List Str) : Prop := List.Pairwise (fun x y : Str => x < y) L
theorem b7Z {x y : Str} (h : x < y) : x ≠ y := fun e => by subst e; exact List.lt_irrefl _ h
theorem b2L {x y : Str} (h : ¬ y < x) (hn : y ≠ x) : x < y := by
 rcases List.le_total x y with h1 | h1
 ·refine Classical.byContradiction fun h2 => hn ?_
  exact List.le_antisymm (List.not_lt.1 h2) (List.not_lt.1 h)
 ·refine Classical.byContradiction fun h2 => hn ?_
  exact List.le_antisymm h1 (List.not_lt.1 h)
theorem c2e {L M : List Str} (hL : b0B L) (hM : b0B M) (h : ∀ x, x ∈ L ↔ x ∈ M) : L = M := by
 have hp : L.Perm M := (List.perm_ext_iff_of_nodup (hL.imp fun h => b7Z h) (hM.imp fun h => b7Z h)).2 h
 exact List.Perm.eq_of_pairwise (le := fun x y => x < y) (fun a b _ _ h1 h2 => absurd (List.lt_trans h1 h2) (List.lt_irrefl _)) hL hM hp
theorem a3v {L : List Str} {x : Str} (h : b0B L) (hx : ∀ y ∈ L, y < x) : b0B (L ++ [x]) := by
 unfold b0B
 rw [List.pairwise_append]
 exact ⟨h, by simp, fun a ha b hb => by rw [List.mem_singleton.1 hb]; exact hx a ha⟩
theorem b6f (x y : Str) : Op.bytesLess x y = decide (x < y) := Go.Proofs.bytesLess_eq x y
theorem c6f {L : List Str} (hL : b0B L) (x : Str) (hl : L.length ≤ 1000000) : ∃ R, a1F L x = some R ∧ b0B R ∧ ∀ y, y ∈ R ↔ y ∈ L ∨ y = x := by
 unfold a1F
 refine G3 (L := L) (fun i s => s.2.1 = (i : Int) ∧ b0B s.2.2 ∧ s.2.2.length ≤ i + 1 ∧ (s.1 = false → s.2.2 = L.take i ∧ ∀ y ∈ L.take i, y < x) ∧ (s.1 = true → (∀ y, y ∈ s.2.2 ↔ y ∈ L.take i ∨ y = x) ∧ ∀ y ∈ L.drop i, x < y)) (by omega) ⟨rfl, List.Pairwise.nil, by simp, fun _ => by simp, fun h => by cases h⟩ ?_ ?_
 ·rintro i ⟨b, _, O⟩ K a ha hi ⟨rfl, h1, h2, h3, h4⟩ hK
  dsimp only at h1 h2 h3 h4
  have hlt := w8 ha
  have hal : ∀ y ∈ L.take i, y < a := by
   intro y hy
   obtain ⟨j, hj⟩ := List.mem_iff_getElem?.1 hy
   rw [List.getElem?_take] at hj
   split at hj
   ·rename_i hji
    have hjl := w8 hj
    have := List.pairwise_iff_getElem.1 hL j i hjl hlt hji
    rw [List.getElem?_eq_getElem hjl] at hj
    rw [List.getElem?_eq_getElem hlt] at ha
    cases hj; cases ha; exact this
   ·cases hj
  have had : ∀ y ∈ L.drop (i + 1), a < y := by
   intro y hy
   obtain ⟨j, hj⟩ := List.mem_iff_getElem?.1 hy
   rw [List.getElem?_drop] at hj
   have hjl := w8 hj
   have := List.pairwise_iff_getElem.1 hL i (i + 1 + j) hlt hjl (by omega)
   rw [List.getElem?_eq_getElem hjl] at hj
   rw [List.getElem?_eq_getElem hlt] at ha
   cases hj; cases ha; exact this
  have hr1 : room (O.length + [x].length) 16 := by constructor <;> simp only [List.length_singleton] <;> omega
  have hr2 : ∀ O' : List Str, O'.length ≤ O.length + 1 → room (O'.length + [a].length) 16 := fun O' h => by constructor <;> simp only [List.length_singleton] <;> omega
  have hr3 : room (O.length + [a].length) 16 := hr2 O (by omega)
  have ha2 := r9 ha
  simp only [Z2, y9 hlt, y7, ha2, Option.bind_some]
  have hmem : ∀ y, y ∈ L.take (i + 1) ↔ y ∈ L.take i ∨ y = a := fun y => by rw [A7 ha, List.mem_append, List.mem_singleton]
  cases b with
  | false =>
   obtain ⟨rfl, h5⟩ := h3 rfl
   simp only [Bool.not_false, y7, b6f]
   by_cases hx : a < x
   ·rw [decide_eq_true hx]
    simp only [Bool.not_true, A0, I4, ha2, Option.bind_some, decide_eq_true (b7Z hx), y7]
    rw [y1 hr3, w7 hi]
    refine hK _ ⟨rfl, a3v h1 hal, by simp only [List.length_append, List.length_singleton]; omega, fun _ => ⟨(A7 ha).symm, fun y hy => ?_⟩, fun h => by cases h⟩
    rcases (hmem y).1 hy with h | h
    ·exact h5 y h
    ·rw [h]; exact hx
   ·rw [decide_eq_false hx]
    simp only [Bool.not_false, y7]
    rw [y1 hr1]
    simp only [I4, ha2, Option.bind_some]
    by_cases he : a = x
    ·rw [decide_eq_false (by simpa using he), A0, w7 hi]
     refine hK _ ⟨rfl, a3v h1 h5, by simp only [List.length_append, List.length_singleton]; omega, fun h => by (simp at h), fun _ => ⟨fun y => ?_, ?_⟩⟩
     ·rw [hmem, List.mem_append, List.mem_singleton, he]
      constructor
      ·rintro (h | h)
       ·exact .inl (.inl h)
       ·exact .inr h
      ·rintro ((h | h) | h)
       ·exact .inl h
       ·exact .inr h
       ·exact .inr h
     ·rw [← he]; exact had
    ·have hxa : x < a := b2L hx he
     rw [decide_eq_true he, y7, y1 (hr2 _ (by simp only [List.length_append, List.length_singleton]; omega)), w7 hi]
     refine hK _ ⟨rfl, a3v (a3v h1 h5) ?_, ?_, fun h => by (simp at h), fun _ => ⟨fun y => ?_, fun y hy => List.lt_trans hxa (had y hy)⟩⟩
     ·intro y hy
      rcases List.mem_append.1 hy with h | h
      ·exact hal y h
      ·rw [List.mem_singleton.1 h]; exact hxa
     ·have : (L.take i).length ≤ i := by rw [List.length_take]; omega
      simp only [List.length_append, List.length_singleton]; omega
     ·rw [hmem, List.mem_append, List.mem_append, List.mem_singleton, List.mem_singleton]
      constructor
      ·rintro ((h | h) | h)
       ·exact .inl (.inl h)
       ·exact .inr h
       ·exact .inl (.inr h)
      ·rintro ((h | h) | h)
       ·exact .inl (.inl h)
       ·exact .inr h
       ·exact .inl (.inr h)
  | true =>
   obtain ⟨h5, h6⟩ := h4 rfl
   have hxa : x < a := h6 a (by rw [L3 ha]; exact List.mem_cons_self)
   simp only [Bool.not_true, A0, I4, ha2, Option.bind_some]
   rw [decide_eq_true (show a ≠ x from fun e => b7Z hxa e.symm), y7, y1 hr3, w7 hi]
   refine hK (true, ((i + 1 : Nat) : Int), O ++ [a]) ⟨rfl, a3v h1 ?_, by simp only [List.length_append, List.length_singleton]; omega, fun h => by (simp at h), fun _ => ⟨fun y => ?_, fun y hy => List.lt_trans hxa (had y hy)⟩⟩
   ·intro y hy
    rcases (h5 y).1 hy with h | h
    ·exact hal y h
    ·rw [h]; exact hxa
   ·rw [hmem, List.mem_append, List.mem_singleton, h5]
    constructor
    ·rintro ((h | h) | h)
     ·exact .inl (.inl h)
     ·exact .inr h
     ·exact .inl (.inr h)
    ·rintro ((h | h) | h)
     ·exact .inl (.inl h)
     ·exact .inr h
     ·exact .inl (.inr h)
 ·rintro ⟨b, _, O⟩ K ⟨rfl, h1, h2, h3, h4⟩
  dsimp only at h1 h2 h3 h4
  have hr1 : room (O.length + [x].length) 16 := by constructor <;> simp only [List.length_singleton] <;> omega
  simp only [Z2, y3, A0]
  rw [C3 (Nat.le_refl _)] at h3 h4
  cases b with
  | false =>
   obtain ⟨rfl, h5⟩ := h3 rfl
   simp only [Bool.not_false, y7]
   rw [y1 hr1]
   exact ⟨_, rfl, a3v h1 h5, fun y => by rw [List.mem_append, List.mem_singleton]⟩
  | true =>
   simp only [Bool.not_true, A0]
   exact ⟨_, rfl, h1, (h4 rfl).1⟩
theorem b3F {S : List Str} {m : Nat} {a : Str} (h : S[m]? = some a) : S.toArray[m]! = a := by
 have hl := w8 h
 rw [List.getElem?_eq_getElem hl] at h
 cases h
 simp [hl]
theorem b1x {S : List Str} (hS : List.Pairwise (fun x y : Str => x ≤ y) S) : ∀ m, m ≤ S.length → b0B (Go.Lib.compactUpTo S.toArray m) ∧ (∀ y, y ∈ Go.Lib.compactUpTo S.toArray m ↔ y ∈ S.take m)
 | 0, _ => ⟨List.Pairwise.nil, fun y => by simp [Go.Lib.compactUpTo]⟩
 | m + 1, hm => by
  obtain ⟨h1, h2⟩ := b1x hS m (by omega)
  obtain ⟨a, ha⟩ := C5 (L := S) (n := m) (by omega)
  rw [Go.Lib.compactUpTo_succ, b3F ha]
  have hmem : ∀ y, y ∈ S.take (m + 1) ↔ y ∈ S.take m ∨ y = a := fun y => by rw [A7 ha, List.mem_append, List.mem_singleton]
  have hle : ∀ (i j : Nat) x y, i < j → S[i]? = some x → S[j]? = some y → x ≤ y := by
   intro i j x y hij hx hy
   have h3 := w8 hx
   have h4 := w8 hy
   have := List.pairwise_iff_getElem.1 hS i j h3 h4 hij
   rw [List.getElem?_eq_getElem h3] at hx
   rw [List.getElem?_eq_getElem h4] at hy
   cases hx; cases hy; exact this
  by_cases hk : Go.Lib.keeps S.toArray m = true
  ·rw [if_pos hk]
   refine ⟨a3v h1 ?_, fun y => by rw [List.mem_append, List.mem_singleton, h2, hmem]⟩
   intro y hy
   rw [h2] at hy
   obtain ⟨j, hj⟩ := List.mem_iff_getElem?.1 hy
   rw [List.getElem?_take] at hj
   split at hj
   ·rename_i hjm
    have h0 : m ≠ 0 := by omega
    obtain ⟨b, hb⟩ := C5 (L := S) (n := m - 1) (by omega)
    have hne : a ≠ b := by
     have := of_decide_eq_true hk
     rcases this with h | h
     ·exact absurd h h0
     ·rw [b3F ha, b3F hb] at h; exact h
    have hba : b < a := b2L (List.not_lt.2 (hle (m - 1) m b a (by omega) hb ha)) hne
    by_cases e : j = m - 1
    ·subst e; rw [hb] at hj; cases hj; exact hba
    ·have hyb := hle j (m - 1) y b (by omega) hj hb
     by_cases e2 : y = b
     ·rw [e2]; exact hba
     ·exact List.lt_trans (b2L (List.not_lt.2 hyb) (fun e => e2 e.symm)) hba
   ·cases hj
  ·rw [if_neg hk, List.append_nil]
   refine ⟨h1, fun y => ?_⟩
   rw [h2, hmem]
   constructor
   ·exact .inl
   ·rintro (h | h)
    ·exact h
    ·have h0 : m ≠ 0 := fun e => hk (by simp [Go.Lib.keeps, e])
     obtain ⟨b, hb⟩ := C5 (L := S) (n := m - 1) (by omega)
     have : a = b := by
      refine Classical.byContradiction fun hne => hk ?_
      refine decide_eq_true (.inr ?_)
      rw [b3F ha, b3F hb]; exact hne
     rw [h, this]
     refine List.mem_iff_getElem?.2 ⟨m - 1, ?_⟩
     rw [List.getElem?_take, if_pos (by omega)]; exact hb
theorem c7f {β : Type} (L : List Str) (hl : L.length ≤ 1000000) (F : List Str → Option β) : ∃ R, ((b2u L).bind fun v => need (v.length = L.length) ((a4D v).bind F)) = F R ∧ b0B R ∧ (∀ y, y ∈ R ↔ y ∈ L) := by
 unfold b2u
 rw [y1 (by omega), Option.bind_some]
 generalize hS : L.mergeSort _ = S
 have hp : S.Perm L := hS ▸ List.mergeSort_perm _ _
 have hpw : List.Pairwise (fun x y : Str => x ≤ y) S := by
  rw [← hS]
  refine (List.pairwise_mergeSort ?_ ?_ L).imp fun h => of_decide_eq_true h
  ·intro a b c h1 h2
   exact decide_eq_true (List.le_trans (of_decide_eq_true h1) (of_decide_eq_true h2))
  ·intro a b
   rcases List.le_total a b with h | h
   ·simp [h]
   ·simp [h]
 have hlen := hp.length_eq
 obtain ⟨h1, h2⟩ := b1x hpw _ (Nat.le_refl _)
 refine ⟨_, ?_, h1, fun y => ?_⟩
 ·unfold a4D
  rw [y1 hlen, y1 (by omega), Option.bind_some]
 ·rw [h2, C3 (Nat.le_refl _)]
  exact hp.mem_iff
theorem c0a {α β R : Type} {A : List α} (g : α → Bool) (f : α → β) {r : R} {body : (Int × List β → Option R) → Int × List β → Option R} (hA : A.length ≤ 9223372036854775807)
  (more : ∀ (i : Nat) (B : List β) k a, A[i]? = some a → i < 9223372036854775807 → B.length ≤ i → i < A.length → body k ((i : Int), B) = bif g a then k (((i + 1 : Nat) : Int), B ++ [f a]) else k (((i + 1 : Nat) : Int), B))
  (done : ∀ k, body k ((A.length : Int), (A.filter g).map f) = some r) : loop body (0, []) = some r := by
 obtain ⟨q, e, hq⟩ := G3 (body := body) (s0 := ((0 : Int), ([] : List β))) (Q := fun q => q = r) (L := A)
  (fun i s => s.1 = (i : Int) ∧ s.2 = ((A.take i).filter g).map f) hA ⟨rfl, rfl⟩
  (by
   rintro i ⟨j, B⟩ k a ha hi ⟨rfl, hB⟩ hk
   dsimp only at hB
   have hl : B.length ≤ i := by
    rw [hB, List.length_map]
    have h1 : ((A.take i).filter g).length ≤ (A.take i).length := List.length_filter_le _ _
    have h2 : (A.take i).length ≤ i := by rw [List.length_take]; omega
    omega
   have hn : (A.take (i + 1)).filter g = (A.take i).filter g ++ (if g a = true then [a] else []) := by
    rw [A7 ha, List.filter_append]
    congr 1
    cases hg : g a <;> simp [hg]
   rw [more i B k a ha hi hl (w8 ha)]
   cases hg : g a
   ·simp only [hg, Bool.false_eq_true, if_false, List.append_nil] at hn
    exact hk _ ⟨rfl, by rw [hB, hn]⟩
   ·simp only [hg, if_true] at hn
    exact hk _ ⟨rfl, by rw [hB, hn]; simp⟩)
  (by
   rintro ⟨j, B⟩ k ⟨rfl, hB⟩
   dsimp only at hB
   rw [C3 (Nat.le_refl _)] at hB
   subst hB
   exact ⟨_, done k, rfl⟩)
 rw [e, hq]
end Go.Ab
set_option linter.unusedVariables false
set_option linter.unusedSimpArgs false
namespace Go.Ab
open Go.RowKit
theorem nif {R : Type} {b : Bool} {x y : R} : (bif !b then x else y) = bif b then y else x := by cases b <;> rfl
theorem b7e {a b : Bool} (h : a = true ↔ b = true) : a = b := by cases a <;> cases b <;> simp_all
theorem b8L {a b : Int} : decide (b ≤ a) = !decide (a < b) := by
 by_cases h : a < b
 ·rw [decide_eq_true h, decide_eq_false (by omega)]; rfl
 ·rw [decide_eq_false h, decide_eq_true (by omega)]; rfl
theorem X7 (n : Nat) : decide ((0 : Int) < ((n + 1 : Nat) : Int)) = true := decide_eq_true (by omega)
theorem c2Q {α : Type} {one : α → Bool} {bef : α → α → Bool} : ∀ {A : List α} {p : Option α}, (∀ x ∈ A, one x = true) → (∀ (i : Nat) x y, A[i]? = some x → A[i + 1]? = some y → bef x y = true) → (∀ q x, p = some q → A[0]? = some x → bef q x = true) → adj one bef p A = true
 | [], p, _, _, _ => by cases p <;> rfl
 | a :: A, p, h1, h2, h3 => by
  have ih := c2Q (A := A) (p := some a) (fun x hx => h1 x (List.mem_cons_of_mem _ hx)) (fun i x y hx hy => h2 (i + 1) x y (by simpa using hx) (by simpa using hy)) (fun q x hq hx => by
   cases hq
   exact h2 0 a x rfl (by simpa using hx))
  cases p with
  | none => simp [adj, h1 a List.mem_cons_self, ih]
  | some q => simp [adj, h1 a List.mem_cons_self, h3 q a rfl rfl, ih]
theorem b2I {α : Type} {one : α → Bool} {bef : α → α → Bool} {A : List α} : adj one bef none A = true ↔ (∀ x ∈ A, one x = true) ∧ ∀ (i : Nat) x y, A[i]? = some x → A[i + 1]? = some y → bef x y = true :=
 ⟨fun h => b6b h, fun h => c2Q h.1 h.2 fun q x hq => by cases hq⟩
def rises (L : List Int) (lo hi : Int) : Bool := adj (fun x => decide (lo ≤ x ∧ x ≤ hi)) (fun a b => decide (a < b)) none L
theorem b6V {L : List Int} (hL : L.length ≤ 9223372036854775807) (lo hi : Int) : a0f L lo hi = some (rises L lo hi) := by
 unfold a0f rises
 have := T4 (A := L) (body := H5 L lo hi) (one := fun x => decide (lo ≤ x ∧ x ≤ hi)) (bef := fun a b => decide (a < b)) (fin := true) hL ?_ ?_ ?_
 ·rw [this, Bool.and_true]
 ·intro k a ha
  have h0 : (0 : Int) = ((0 : Nat) : Int) := rfl
  rw [h0]
  simp only [H5, y9 (w8 ha), y7, r9 ha, Option.bind_some, P0, nif]
  rfl
 ·intro i k q a hq ha hi
  simp only [H5, y9 (w8 ha), y7, r9 ha, Option.bind_some, P0, nif, X7, M3 (show i < 9223372036854775807 by omega), r9 hq, w7 hi, b8L]
 ·intro k
  simp only [H5, y3, A0]
theorem b4X {L : List Int} (hL : L.length ≤ 9223372036854775807) (h1 : 1 ≤ L.length) : V1 L = some (adj (fun _ => true) (fun a b => decide (a < b)) none L) := by
 unfold V1
 have key : ∀ (d i : Nat), i + 1 + d = L.length → ∀ N, d < N → iter (H6 L) N ((i + 1 : Nat) : Int) = some (adj (fun _ => true) (fun a b => decide (a < b)) L[i]? (L.drop (i + 1))) := by
  intro d
  induction d with
  | zero =>
   intro i hi N hN
   obtain ⟨N, rfl⟩ : ∃ M, N = M + 1 := ⟨N - 1, by omega⟩
   have hn : decide (((i + 1 : Nat) : Int) < (L.length : Int)) = false := decide_eq_false (by omega)
   rw [iter, List.drop_eq_nil_of_le (by omega)]
   simp only [H6, hn, A0]
   cases L[i]? <;> rfl
  | succ d ih =>
   intro i hi N hN
   obtain ⟨N, rfl⟩ : ∃ M, N = M + 1 := ⟨N - 1, by omega⟩
   obtain ⟨a, ha⟩ := C5 (L := L) (n := i + 1) (by omega)
   obtain ⟨q, hq⟩ := C5 (L := L) (n := i) (by omega)
   have h2 := ih (i + 1) (by omega) N (by omega)
   rw [iter, L3 ha, hq]
   simp only [H6, y9 (w8 ha), y7, r9 ha, Option.bind_some, M3 (show i < 9223372036854775807 by omega), r9 hq, w7 (show i + 1 < 9223372036854775807 by omega), b8L, nif]
   rw [h2, ha]
   simp only [adj, Bool.true_and]
   cases decide (q < a) <;> rfl
 have h0 := key (L.length - 1) 0 (by omega) lim (a7Q (by omega))
 obtain ⟨a, ha⟩ := C5 (L := L) (n := 0) (by omega)
 rw [ha] at h0
 have e : adj (fun _ => true) (fun a b => decide (a < b)) (some a) (L.drop (0 + 1)) = adj (fun _ => true) (fun a b => decide (a < b)) none L := by
  have : L = a :: L.drop 1 := by have := L3 ha; simpa using this
  conv => rhs; rw [this]
  rfl
 rw [e] at h0
 exact h0
def a2O (L : List Int) : Bool := decide ((5 : Int) ≤ (L.length : Int)) && (rises L 0 11 && decide (L[0]? = some 0))
theorem b1j {L : List Int} (hL : L.length ≤ 9223372036854775807) : U5 L = some (a2O L) := by
 unfold U5 a2O
 rw [b6V hL]
 by_cases h5 : (5 : Int) ≤ L.length
 ·obtain ⟨a, ha⟩ := C5 (L := L) (n := 0) (by omega)
  have ha2 : ix L (0 : Int) = some a := r9 ha
  rw [decide_eq_true h5, y7, Option.bind_some, ha2, ha]
  cases rises L 0 11 <;> simp
 ·rw [decide_eq_false h5]; rfl
theorem a7o {L : List Int} (hL : L.length ≤ 9223372036854775807) : N6 L = some (a2O L) := by
 unfold N6 a2O
 by_cases h5 : (5 : Int) ≤ L.length
 ·obtain ⟨a, ha⟩ := C5 (L := L) (n := 0) (by omega)
  obtain ⟨z, hz⟩ := C5 (L := L) (n := L.length - 1) (by omega)
  have ha2 : ix L (0 : Int) = some a := r9 ha
  have hz2 : ix L (w64 ((L.length : Int) - 1)) = some z := by
   rw [show (L.length : Int) - 1 = ((L.length - 1 : Nat) : Int) by omega, A9 (by omega)]
   exact r9 hz
  rw [b4X hL (by omega), decide_eq_true h5, y7, ha2, Option.bind_some, ha]
  simp only [Bool.true_and, Option.some.injEq, Option.bind_some, hz2]
  by_cases h0 : a = 0
  ·rw [decide_eq_true h0, y7, Bool.and_true]
   have : (bif adj (fun _ => true) (fun a b : Int => decide (a < b)) none L then some (decide (z < 12)) else some false) = some (adj (fun _ => true) (fun a b : Int => decide (a < b)) none L && decide (z < 12)) := by
    cases adj (fun _ => true) (fun a b : Int => decide (a < b)) none L <;> rfl
   rw [this]
   congr 1
   refine b7e ?_
   unfold rises
   rw [Bool.and_eq_true, b2I, b2I, decide_eq_true_iff]
   constructor
   ·rintro ⟨⟨_, h1⟩, h2⟩
    have mono : ∀ (d i : Nat) x y, L[i]? = some x → L[i + d]? = some y → x + d ≤ y := by
     intro d
     induction d with
     | zero => intro i x y hx hy; rw [Nat.add_zero, hx] at hy; cases hy; simp
     | succ d ih =>
      intro i x y hx hy
      obtain ⟨m, hm⟩ := C5 (L := L) (n := i + d) (by have := w8 hy; omega)
      have h3 := ih i x m hx hm
      have h4 := of_decide_eq_true (h1 (i + d) m y hm hy)
      omega
    refine ⟨fun x hx => ?_, h1⟩
    obtain ⟨i, hi⟩ := List.mem_iff_getElem?.1 hx
    have hlt := w8 hi
    have q1 := mono i 0 a x ha (by rw [Nat.zero_add]; exact hi)
    have q2 := mono (L.length - 1 - i) i x z hi (by rw [show i + (L.length - 1 - i) = L.length - 1 by omega]; exact hz)
    exact decide_eq_true (by omega)
   ·rintro ⟨h1, h2⟩
    refine ⟨⟨fun _ _ => rfl, h2⟩, ?_⟩
    have := of_decide_eq_true (h1 z (B6 hz))
    omega
  ·rw [decide_eq_false h0, A0, Bool.and_false]
 ·rw [decide_eq_false h5]; rfl
theorem b5s {L : List Int} (hL : L.length ≤ 9223372036854775807) (t : Int) : a0B L t = some (decide (t ∈ L)) := by
 unfold a0B
 obtain ⟨r, e, hr⟩ := G3 (body := Q9 L t) (L := L) (s0 := 0) (Q := fun r => r = decide (t ∈ L)) (fun i s => s = (i : Int) ∧ ∀ x ∈ L.take i, x ≠ t) hL ⟨rfl, by simp⟩
  (by
   rintro i _ k a ha hi ⟨rfl, hI⟩ hk
   simp only [Q9, y9 (w8 ha), y7, r9 ha, Option.bind_some, w7 hi, A4]
   split
   ·rename_i h
    exact ⟨_, rfl, (decide_eq_true (by rw [← h]; exact B6 ha)).symm⟩
   ·rename_i h
    refine hk _ ⟨rfl, fun x hx => ?_⟩
    rw [A7 ha] at hx
    rcases List.mem_append.1 hx with hx | hx
    ·exact hI x hx
    ·rw [List.mem_singleton.1 hx]; exact h)
  (by
   rintro _ k ⟨rfl, hI⟩
   rw [C3 (Nat.le_refl _)] at hI
   simp only [Q9, y3, A0]
   exact ⟨_, rfl, (decide_eq_false fun h => hI t h rfl).symm⟩)
 rw [e, hr]
theorem a8p {L : List Int} (hL : L.length ≤ 9223372036854775807) (t : Int) : C8 L t = some (decide (t ∈ L)) := by
 unfold C8 I5
 obtain ⟨r, e, hr⟩ := G3 (body := C9 L t) (L := L) (s0 := 0) (Q := fun r => decide (0 ≤ r) = decide (t ∈ L)) (fun i s => s = (i : Int) ∧ ∀ x ∈ L.take i, x ≠ t) hL ⟨rfl, by simp⟩
  (by
   rintro i _ k a ha hi ⟨rfl, hI⟩ hk
   simp only [C9, y9 (w8 ha), y7, r9 ha, Option.bind_some, w7 hi, A4]
   split
   ·rename_i h
    exact ⟨_, rfl, by rw [decide_eq_true (by omega), decide_eq_true (by rw [h]; exact B6 ha)]⟩
   ·rename_i h
    refine hk _ ⟨rfl, fun x hx => ?_⟩
    rw [A7 ha] at hx
    rcases List.mem_append.1 hx with hx | hx
    ·exact hI x hx
    ·rw [List.mem_singleton.1 hx]; exact fun e => h e.symm)
  (by
   rintro _ k ⟨rfl, hI⟩
   rw [C3 (Nat.le_refl _)] at hI
   simp only [C9, y3, A0]
   exact ⟨_, rfl, by rw [decide_eq_false (by omega), decide_eq_false fun h => hI t h rfl]⟩)
 rw [e, Option.bind_some, hr]
def a3Y (a : A8) (t : Int) : Bool := decide (t ∈ a.2.1) || decide (t ∈ a.2.2.1)
theorem b3i {a : A8} (h1 : a.2.1.length ≤ 9223372036854775807) (h2 : a.2.2.1.length ≤ 9223372036854775807) (t : Int) : Y5 a t = some (a3Y a t) := by
 unfold Y5 a3Y
 rw [b5s h1, b5s h2]
 simp only [Option.bind_some]
 cases decide (t ∈ a.2.1) <;> rfl
theorem b3E {a : A8} (h1 : a.2.1.length ≤ 9223372036854775807) (h2 : a.2.2.1.length ≤ 9223372036854775807) (t : Int) : K0 a t = some (a3Y a t) := by
 unfold K0 a3Y
 rw [a8p h1, a8p h2]
 simp only [Option.bind_some]
 cases decide (t ∈ a.2.1) <;> rfl
def b0Z (a : j6) : Bool := decide (-12 ≤ a.1 ∧ a.1 ≤ 23) && decide (1 ≤ a.2 ∧ a.2 ≤ 64)
def b7y (L : List j6) : Bool := adj b0Z (fun _ _ => true) none L && decide ((L.length : Int) ≤ 48)
theorem c1Q {L : List j6} (hL : L.length ≤ 9223372036854775807) : a2u L = some (b7y L) := by
 unfold a2u b7y
 have st : ∀ (i : Nat) k a, L[i]? = some a → i < 9223372036854775807 → U1 L k (i : Int) = bif b0Z a then k ((i + 1 : Nat) : Int) else some false := by
  intro i k a ha hi
  simp only [U1, U2, a1n, y9 (w8 ha), y7, r9 ha, Option.bind_some, P0, nif, w7 hi, b0Z]
  cases decide (-12 ≤ a.1 ∧ a.1 ≤ 23) <;> rfl
 refine T4 hL ?_ ?_ ?_
 ·intro k a ha; exact st 0 k a ha (by omega)
 ·intro i k q a hq ha hi; rw [st (i + 1) k a ha hi]; rfl
 ·intro k; simp only [U1, y3, A0]
theorem b4d {L : List j6} (hL : L.length ≤ 9223372036854775807) : S0 L = some (b7y L) := by
 have st : ∀ (i : Nat) k a, L[i]? = some a → i < 9223372036854775807 → E9 L k (i : Int) = bif b0Z a then k ((i + 1 : Nat) : Int) else some false := by
  intro i k a ha hi
  simp only [E9, a2t, a1S, y9 (w8 ha), y7, r9 ha, Option.bind_some, N5, nif, w7 hi, b0Z]
  cases decide (-12 ≤ a.1 ∧ a.1 ≤ 23) <;> rfl
 have e : loop (E9 L) 0 = some (adj b0Z (fun _ _ => true) none L && true) := by
  refine T4 hL ?_ ?_ ?_
  ·intro k a ha; exact st 0 k a ha (by omega)
  ·intro i k q a hq ha hi; rw [st (i + 1) k a ha hi]; rfl
  ·intro k; simp only [E9, y3, A0]
 unfold S0 b7y
 rw [e]
 by_cases h : (48 : Int) < L.length
 ·rw [decide_eq_true h, y7, decide_eq_false (by omega), Bool.and_false]
 ·rw [decide_eq_false h, A0, decide_eq_true (by omega)]
end Go.Ab
set_option linter.unusedVariables false
set_option linter.unusedSimpArgs false
namespace Go.Ab
open Go.RowKit
def a4X (a : n9) : Bool := decide (0 ≤ a.1 ∧ a.1 ≤ 100000) && (O2 a.2.1 && (O2 a.2.2.1 && (decide (1 ≤ a.2.2.2.1 ∧ a.2.2.2.1 ≤ 480) && decide (0 ≤ a.2.2.2.2 ∧ a.2.2.2.2 ≤ 100))))
def a4b (a b : n9) : Bool := if a.1 ≠ b.1 then decide (a.1 < b.1) else if a.2.1 ≠ b.2.1 then decide (a.2.1 < b.2.1) else decide (a.2.2.1 < b.2.2.1)
theorem b5C {a : n9} (h : a3y a) : a1A a = some (a4X a) := by
 obtain ⟨_, h1, h2, _⟩ := h
 unfold a1A a4X
 rw [P0, P0, P0, a0O _ h1, a0O _ h2]
 simp only [Option.bind_some]
 cases decide (0 ≤ a.1 ∧ a.1 ≤ 100000) <;> cases O2 a.2.1 <;> cases O2 a.2.2.1 <;> cases decide (1 ≤ a.2.2.2.1 ∧ a.2.2.2.1 ≤ 480) <;> rfl
theorem b5u {a : n9} (h : a3y a) : P6 a = some (a4X a) := by
 obtain ⟨_, h1, h2, _⟩ := h
 unfold P6 a4X
 rw [N5, N5, N5, a2I _ h1, a2I _ h2]
 simp only [Option.bind_some]
 cases decide (0 ≤ a.1 ∧ a.1 ≤ 100000) <;> cases O2 a.2.1 <;> cases O2 a.2.2.1 <;> cases decide (1 ≤ a.2.2.2.1 ∧ a.2.2.2.1 ≤ 480) <;> rfl
theorem b6v (a b : n9) : X4 a b = some (a4b a b) := by
 unfold X4 a4b
 simp only [A4, b6f]
 split
 ·rfl
 ·split <;> rfl
def a6b (a b : Int) : Int := if a < b then -1 else if b < a then 1 else 0
def c2u (a b : Str) : Int := if a < b then -1 else if a = b then 0 else 1
theorem b2D (a b : Int) : G1 a b = some (a6b a b) := by
 unfold G1 V7 a6b
 simp only [ne_eq, not_true_eq_false, decide_false, Option.bind_some, A0, A4]
 split
 ·rfl
 ·split <;> rfl
theorem b9R (a b : Str) : I3 a b = some (c2u a b) := by
 unfold I3 T5 c2u
 simp only [ne_eq, not_true_eq_false, decide_false, Option.bind_some, A0, b6f]
 by_cases h : a < b
 ·simp [h]
 ·by_cases h2 : a = b
  ·subst h2; simp [h]
  ·simp [h, h2]
def or3 (x y z : Int) : Int := if x ≠ 0 then x else if y ≠ 0 then y else z
theorem c6p (x y z : Int) : a2v [x, y, z] = some (or3 x y z) := by
 unfold a2v
 have := b4i (body := U6 [x, y, z]) (L := [x, y, z]) (fun t => (t.find? (fun z => decide (z ≠ 0))).getD 0) (by simp) ?_ ?_
 ·rw [this]
  unfold or3
  by_cases h : x = 0 <;> by_cases h2 : y = 0 <;> by_cases h3 : z = 0 <;> simp [List.find?, h, h2, h3]
 ·intro i k a t ha hi hk
  simp only [U6, y9 (w8 ha), y7, r9 ha, Option.bind_some, w7 hi, A4, hk]
  by_cases h : a = 0 <;> simp [List.find?, h]
 ·intro k
  simp only [U6, y3, A0]
  rfl
theorem b6I (a b : n9) : ∃ c, M2 a b = some c ∧ (decide (0 ≤ c) = !a4b a b) := by
 refine ⟨or3 (a6b a.1 b.1) (c2u a.2.1 b.2.1) (c2u a.2.2.1 b.2.2.1), ?_, ?_⟩
 ·unfold M2
  rw [b2D, b9R, b9R]
  simp only [Option.bind_some, c6p]
 ·unfold or3 a4b a6b c2u
  by_cases h1 : a.1 < b.1
  ·have : a.1 ≠ b.1 := by omega
   simp [h1, this]
  ·by_cases h2 : b.1 < a.1
   ·have : a.1 ≠ b.1 := by omega
    simp [h1, h2, this]
   ·have e : a.1 = b.1 := by omega
    simp only [e, Int.lt_irrefl, if_false, ne_eq, not_true_eq_false]
    by_cases h3 : a.2.1 = b.2.1
    ·have e3 : ¬ b.2.1 < b.2.1 := List.lt_irrefl _
     simp only [h3, e3, if_false, if_true, not_true_eq_false]
     by_cases h4 : a.2.2.1 < b.2.2.1
     ·simp [h4]
     ·by_cases h5 : a.2.2.1 = b.2.2.1
      ·have e5 : ¬ b.2.2.1 < b.2.2.1 := List.lt_irrefl _
       simp [h5, e5]
      ·simp [h4, h5]
    ·by_cases h4 : a.2.1 < b.2.1 <;> simp [h3, h4]
theorem c4l {A : List n9} (hA : A.length ≤ 100000) : ∃ R, R6 A = some R ∧ a0l A = some R ∧ b0B R ∧ ∀ y, y ∈ R ↔ ∃ a ∈ A, a.2.1 = y := by
 obtain ⟨R, h1, h2, h3⟩ : ∃ R, R6 A = some R ∧ (b0B R ∧ ∀ y, y ∈ R ↔ ∃ a ∈ A, a.2.1 = y) := by
  unfold R6
  refine G3 (L := A) (fun i s => s.1 = (i : Int) ∧ b0B s.2 ∧ s.2.length ≤ i ∧ ∀ y, y ∈ s.2 ↔ ∃ a ∈ A.take i, a.2.1 = y) (by omega) ⟨rfl, List.Pairwise.nil, by simp, by simp⟩ ?_ ?_
  ·rintro i ⟨_, B⟩ K a ha hi ⟨rfl, g1, g2, g3⟩ hK
   dsimp only at g1 g2 g3
   have hlt := w8 ha
   obtain ⟨S, e, q1, q2⟩ := c6f g1 a.2.1 (by omega)
   simp only [P3, y9 hlt, y7, r9 ha, Option.bind_some, e, w7 hi]
   refine hK _ ⟨rfl, q1, ?_, fun y => ?_⟩
   ·have hd : S.Nodup := q1.imp fun h => b7Z h
    have := hd.length_le_of_subset (l₂ := B ++ [a.2.1]) (fun y hy => by
     rcases (q2 y).1 hy with h | h
     ·exact List.mem_append_left _ h
     ·exact List.mem_append_right _ (by rw [h]; exact List.mem_singleton.2 rfl))
    simp only [List.length_append, List.length_singleton] at this
    dsimp only; omega
   ·rw [q2, g3, A7 ha]
    constructor
    ·rintro (⟨x, hx, e⟩ | h)
     ·exact ⟨x, List.mem_append_left _ hx, e⟩
     ·exact ⟨a, List.mem_append_right _ (List.mem_singleton.2 rfl), h.symm⟩
    ·rintro ⟨x, hx, e⟩
     rcases List.mem_append.1 hx with h | h
     ·exact .inl ⟨x, h, e⟩
     ·rw [List.mem_singleton.1 h] at e; exact .inr e.symm
  ·rintro ⟨_, B⟩ K ⟨rfl, g1, g2, g3⟩
   rw [C3 (Nat.le_refl _)] at g3
   simp only [P3, y3, A0]
   exact ⟨_, rfl, g1, g3⟩
 obtain ⟨S, q1, q2, q3⟩ := c7f ((A.filter fun _ => true).map (·.2.1)) (by rw [List.length_map]; exact Nat.le_trans (List.length_filter_le _ _) (by omega)) (some : List Str → Option (List Str))
 have e : S = R := c2e q2 h2 fun y => by rw [q3, h3]; simp
 refine ⟨R, h1, ?_, h2, h3⟩
 unfold a0l
 refine c0a (A := A) (fun _ => true) (·.2.1) (by omega) ?_ ?_
 ·intro i B k a ha hi hB hlt
  have hr : room (B.length + [a.2.1].length) 16 := by constructor <;> simp only [List.length_singleton] <;> omega
  simp only [R8, y9 hlt, y7, r9 ha, Option.bind_some, y1 hr, w7 hi]
 ·intro k
  simp only [R8, y3, A0]
  rw [← e]
  exact q1
structure VL (A : List n9) : Prop where
 len : A.length ≤ 64
 one : ∀ a ∈ A, a4X a = true
 adj : ∀ (i : Nat) x y, A[i]? = some x → A[i + 1]? = some y → a4b x y = true
theorem b8O {A : List n9} (hA : (OkL a3y) A) (hs : A.length ≤ 1048576) : ∃ r, a1p A = some r ∧ J8 A = some r ∧ (r = true → VL A) := by
 have h1 := hA.1
 have i1 : loop (D8 A) 0 = some (adj a4X a4b none A && true) := by
  refine T4 h1 ?_ ?_ ?_
  ·intro k a ha
   have h0 : (0 : Int) = ((0 : Nat) : Int) := rfl
   rw [h0]
   simp only [D8, y9 (w8 ha), y7, r9 ha, Option.bind_some, b5u (hA.2 a (B6 ha))]
   cases a4X a <;> rfl
  ·intro i k q a hq ha hi
   obtain ⟨c, e, hc⟩ := b6I q a
   simp only [D8, y9 (w8 ha), y7, r9 ha, Option.bind_some, b5u (hA.2 a (B6 ha)), M3 (show i < 9223372036854775807 by omega), w7 hi, r9 hq, e, hc]
   rw [decide_eq_true (show (0 : Int) < ((i + 1 : Nat) : Int) by omega), y7]
   cases a4X a <;> cases a4b q a <;> rfl
  ·intro k; simp only [D8, y3, A0]
 have s1 : ∀ fin, (∀ k, L6 A k (A.length : Int) = some fin) → a1p A = some (adj a4X a4b none A && fin) := by
  intro fin hf
  unfold a1p
  refine T4 h1 ?_ ?_ hf
  ·intro k a ha
   have h0 : (0 : Int) = ((0 : Nat) : Int) := rfl
   rw [h0]
   simp only [L6, y9 (w8 ha), y7, r9 ha, Option.bind_some, b5C (hA.2 a (B6 ha))]
   cases a4X a <;> rfl
  ·intro i k q a hq ha hi
   simp only [L6, y9 (w8 ha), y7, r9 ha, Option.bind_some, b5C (hA.2 a (B6 ha)), M3 (show i < 9223372036854775807 by omega), w7 hi, r9 hq, b6v]
   rw [decide_eq_true (show (0 : Int) < ((i + 1 : Nat) : Int) by omega), y7]
   cases a4X a <;> cases a4b q a <;> rfl
 by_cases h64 : A.length ≤ 64
 ·obtain ⟨R, p1, p2, _, _⟩ := c4l (A := A) (by omega)
  refine ⟨adj a4X a4b none A && decide ((R.length : Int) ≤ 12), s1 _ ?_, ?_, ?_⟩
  ·intro k
   simp only [L6, y3, A0]
   rw [decide_eq_true (by omega), y7, p1]; rfl
  ·unfold J8
   rw [decide_eq_false (by omega), A0, p2, Option.bind_some, i1]
   by_cases h : (12 : Int) < R.length
   ·rw [decide_eq_true h, y7, decide_eq_false (by omega), Bool.and_false]
   ·rw [decide_eq_false h, A0, decide_eq_true (by omega)]
  ·intro hr
   obtain ⟨g1, g2⟩ := b6b (Bool.and_eq_true_iff.1 hr).1
   exact ⟨h64, g1, g2⟩
 ·refine ⟨false, ?_, ?_, fun h => by cases h⟩
  ·rw [s1 false, Bool.and_false]
   intro k
   simp only [L6, y3, A0]
   rw [decide_eq_false (by omega), A0]
  ·unfold J8
   rw [decide_eq_true (by omega), y7]
end Go.Ab
set_option linter.unusedVariables false
set_option linter.unusedSimpArgs false
namespace Go.Ab
open Go.RowKit
theorem b5y {α : Type} {A : List α} {one : α → Bool} {bef : α → α → Bool} {fin : Bool} {body : (Int → Option Bool) → Int → Option Bool} (hA : A.length ≤ 9223372036854775807)
  (first : ∀ k a, A[0]? = some a → body k 0 = bif one a then k 1 else some false)
  (more : ∀ (i : Nat) k q a, A[i]? = some q → A[i + 1]? = some a → one q = true → i + 1 < 9223372036854775807 → body k ((i + 1 : Nat) : Int) = bif one a then (bif bef q a then k ((i + 2 : Nat) : Int) else some false) else some false)
  (done : ∀ k, body k (A.length : Int) = some fin) : loop body 0 = some (adj one bef none A && fin) := by
 have key : ∀ (d i : Nat), i + 1 + d = A.length → ∀ q, A[i]? = some q → one q = true → ∀ N, d < N → iter body N ((i + 1 : Nat) : Int) = some (adj one bef (some q) (A.drop (i + 1)) && fin) := by
  intro d
  induction d with
  | zero =>
   intro i hi q hq ho N hN
   obtain ⟨N, rfl⟩ : ∃ M, N = M + 1 := ⟨N - 1, by omega⟩
   have : i + 1 = A.length := by omega
   rw [iter, this, done, List.drop_length]
   rfl
  | succ d ih =>
   intro i hi q hq ho N hN
   obtain ⟨N, rfl⟩ : ∃ M, N = M + 1 := ⟨N - 1, by omega⟩
   obtain ⟨a, ha⟩ := C5 (L := A) (n := i + 1) (by omega)
   rw [iter, more i _ q a hq ha ho (by omega), L3 ha]
   simp only [adj]
   cases ho2 : one a
   ·rfl
   ·cases bef q a
    ·rfl
    ·have := ih (i + 1) (by omega) a ha ho2 N (by omega)
     simp only [y7, Bool.true_and]
     exact this
 cases A with
 | nil =>
  obtain ⟨m, hm⟩ : ∃ m, lim = m + 1 := ⟨lim - 1, by unfold lim; omega⟩
  unfold loop
  rw [hm, iter]
  have := done (iter body m)
  simpa [adj] using this
 | cons a A =>
  obtain ⟨m, hm⟩ : ∃ m, lim = m + 1 := ⟨lim - 1, by unfold lim; omega⟩
  have hml : A.length < m := by unfold lim at hm; simp only [List.length_cons] at hA; omega
  have hf := first (iter body m) a rfl
  unfold loop
  rw [hm, iter, hf]
  simp only [adj]
  cases ho : one a
  ·rfl
  ·have := key A.length 0 (by simp only [List.length_cons]; omega) a rfl ho m hml
   simp only [y7, Bool.true_and]
   simpa using this
def pr2 : List Int → Bool
 | [a, b] => decide (0 ≤ a ∧ a ≤ 11) && (decide (0 ≤ b ∧ b ≤ 11) && !decide (a = b))
 | _ => false
def pbef : List Int → List Int → Bool
 | [a, b], [c, d] => decide (a < c) || (decide (a = c) && decide (b < d))
 | _, _ => false
theorem a6C {α : Type} (q : List α) : (∃ a b, q = [a, b]) ∨ decide ((q.length : Int) = 2) = false := by
 match q with
 | [] => exact .inr (by simp)
 | [a] => exact .inr (by simp)
 | [a, b] => exact .inl ⟨a, b, rfl⟩
 | a :: b :: c :: t => exact .inr (decide_eq_false (by simp only [List.length_cons]; omega))
theorem b6h {q : List Int} (h : pr2 q = true) : ∃ a b, q = [a, b] := by
 rcases a6C q with h2 | h2
 ·exact h2
 ·match q, h with
  | [a, b], _ => exact ⟨a, b, rfl⟩
theorem ix0 {α : Type} (a b : α) : ix [a, b] 0 = some a := rfl
theorem ix1 {α : Type} (a b : α) : ix [a, b] 1 = some b := rfl
theorem b9d {q : List Int} (h : decide ((q.length : Int) = 2) = false) : pr2 q = false := by
 match q, h with
 | [], _ => rfl
 | [a], _ => rfl
 | [a, b], h => simp at h
 | a :: b :: c :: t, _ => rfl
theorem b4t (q : List Int) : a1b q = some (pr2 q) := by
 unfold a1b
 rcases a6C q with ⟨a, b, rfl⟩ | h
 ·rw [show decide ((([a, b] : List Int).length : Int) = 2) = true from rfl, y7]
  simp only [ix0, ix1, Option.bind_some, P0, pr2]
  cases decide (0 ≤ a ∧ a ≤ 11) <;> cases decide (0 ≤ b ∧ b ≤ 11) <;> simp
 ·rw [h, A0, b9d h]
theorem b7u (a b c d : Int) : ∃ r, B2 [a, b] [c, d] = some r ∧ decide (0 ≤ r) = !pbef [a, b] [c, d] := by
 unfold B2
 obtain ⟨m, hm⟩ : ∃ m, lim = m + 1 + 1 + 1 := ⟨lim - 3, by unfold lim; omega⟩
 unfold loop
 rw [hm]
 have w1 : w64 ((0 : Int) + 1) = 1 := by rw [A9 (by omega)]; rfl
 have w2 : w64 ((1 : Int) + 1) = 2 := by rw [A9 (by omega)]; rfl
 simp only [iter, B4, ix0, ix1, Option.bind_some, b2D, w1, w2, List.length_cons, List.length_nil]
 simp only [show decide ((0 : Int) < ((0 + 1 + 1 : Nat) : Int)) = true from rfl, show decide ((1 : Int) < ((0 + 1 + 1 : Nat) : Int)) = true from rfl, show decide ((2 : Int) < ((0 + 1 + 1 : Nat) : Int)) = false from rfl, show decide (((0 + 1 + 1 : Nat) : Int) ≤ 0) = false from rfl, show decide (((0 + 1 + 1 : Nat) : Int) ≤ 1) = false from rfl, show decide (((0 + 1 + 1 : Nat) : Int) < ((0 + 1 + 1 : Nat) : Int)) = false from rfl, y7, A0]
 unfold pbef a6b
 rcases Int.lt_trichotomy a c with h | h | h
 ·refine ⟨-1, ?_, ?_⟩ <;> simp [h]
 ·subst h
  rcases Int.lt_trichotomy b d with h | h | h
  ·refine ⟨-1, ?_, ?_⟩ <;> simp [h]
  ·subst h
   refine ⟨0, ?_, ?_⟩ <;> simp
  ·have : ¬ b < d := by omega
   refine ⟨1, ?_, ?_⟩ <;> simp [h, this]
 ·have h1 : ¬ a < c := by omega
  have h2 : ¬ a = c := by omega
  refine ⟨1, ?_, ?_⟩ <;> simp [h, h1, h2]
def b2x (F : List (List Int)) : Bool := adj pr2 pbef none F && decide ((F.length : Int) ≤ 8)
theorem b6Y {F : List (List Int)} (hF : F.length ≤ 9223372036854775807) : a0r F = some (b2x F) := by
 unfold a0r b2x
 refine b5y hF ?_ ?_ ?_
 ·intro k a ha
  have h0 : (0 : Int) = ((0 : Nat) : Int) := rfl
  rw [h0]
  simp only [M7, y9 (w8 ha), y7, r9 ha, Option.bind_some, b4t, nif]
  rfl
 ·intro i k q a hq ha ho hi
  obtain ⟨x, y, rfl⟩ := b6h ho
  simp only [M7, y9 (w8 ha), y7, r9 ha, Option.bind_some, b4t, nif, X7, M3 (show i < 9223372036854775807 by omega), r9 hq, ix0, ix1, w7 hi]
  cases hp : pr2 a
  ·rfl
  ·obtain ⟨c, d, rfl⟩ := b6h hp
   simp only [y7, ix0, ix1, Option.bind_some, pbef]
   rcases Int.lt_trichotomy x c with h | h | h
   ·rw [decide_eq_false (show ¬ c < x by omega), decide_eq_false (show ¬ x = c by omega), decide_eq_true h]; rfl
   ·subst h
    rw [decide_eq_false (show ¬ x < x by omega), decide_eq_true (rfl : x = x)]
    by_cases h3 : y < d
    ·rw [decide_eq_false (show ¬ d ≤ y by omega), decide_eq_true h3]; rfl
    ·rw [decide_eq_true (show d ≤ y by omega), decide_eq_false h3]; rfl
   ·rw [decide_eq_true h, decide_eq_false (show ¬ x < c by omega), decide_eq_false (show ¬ x = c by omega)]; rfl
 ·intro k; simp only [M7, y3, A0]
def b2N (a : A8) : Bool := O2 a.1 && (a2O a.2.1 && (a2O a.2.2.1 && (a3Y a a.2.2.2.1 && (a3Y a a.2.2.2.2.1 && (!decide (a.2.2.2.1 = a.2.2.2.2.1) && b2x a.2.2.2.2.2)))))
theorem c3c {a : A8} (o : b2M a) : a2o a = some (b2N a) := by
 obtain ⟨o0, o1, o2, _, _, o5⟩ := o
 unfold a2o b2N
 rw [a0O _ o0, b1j o1.1, b1j o2.1, b3i o1.1 o2.1, b3i o1.1 o2.1, b6Y o5.1]
 simp only [Option.bind_some, ne_eq, decide_not]
 cases O2 a.1 <;> cases a2O a.2.1 <;> cases a2O a.2.2.1 <;> cases a3Y a a.2.2.2.1 <;> cases a3Y a a.2.2.2.2.1 <;> cases decide (a.2.2.2.1 = a.2.2.2.2.1) <;> rfl
theorem b6o {a : A8} (o : b2M a) : Y6 a = some (b2N a) := by
 obtain ⟨o0, o1, o2, _, _, o5⟩ := o
 have e : loop (G0 a) 0 = some (adj pr2 pbef none a.2.2.2.2.2 && true) := by
  refine b5y o5.1 ?_ ?_ ?_
  ·intro k q hq
   have h0 : (0 : Int) = ((0 : Nat) : Int) := rfl
   rw [h0]
   simp only [G0, y9 (w8 hq), y7, r9 hq, Option.bind_some]
   rcases a6C q with ⟨x, y, rfl⟩ | h
   ·rw [show decide ((([x, y] : List Int).length : Int) ≠ 2) = false from rfl, A0]
    simp only [ix0, ix1, Option.bind_some, a0E, N5, pr2]
    cases decide (0 ≤ x ∧ x ≤ 11) <;> cases decide (0 ≤ y ∧ y ≤ 11) <;> cases decide (x = y) <;> rfl
   ·rw [decide_eq_true (of_decide_eq_false h), y7, b9d h]; rfl
  ·intro i k p q hp hq ho hi
   obtain ⟨c, d, rfl⟩ := b6h ho
   simp only [G0, y9 (w8 hq), y7, r9 hq, Option.bind_some, X7, M3 (show i < 9223372036854775807 by omega), r9 hp, w7 hi]
   rcases a6C q with ⟨x, y, rfl⟩ | h
   ·obtain ⟨r, e1, e2⟩ := b7u c d x y
    rw [show decide ((([x, y] : List Int).length : Int) ≠ 2) = false from rfl, A0]
    simp only [ix0, ix1, Option.bind_some, a0E, N5, pr2, e1, e2, nif]
    cases decide (0 ≤ x ∧ x ≤ 11) <;> cases decide (0 ≤ y ∧ y ≤ 11) <;> cases decide (x = y) <;> rfl
   ·rw [decide_eq_true (of_decide_eq_false h), y7, b9d h]; rfl
  ·intro k; simp only [G0, y3, A0]
 unfold Y6 b2N b2x
 rw [a2I _ o0, a7o o1.1, a7o o2.1, b3E o1.1 o2.1, b3E o1.1 o2.1, e]
 simp only [Option.bind_some, Bool.and_true]
 have h8 : decide ((8 : Int) < (a.2.2.2.2.2.length : Int)) = !decide ((a.2.2.2.2.2.length : Int) ≤ 8) := by
  by_cases h : (a.2.2.2.2.2.length : Int) ≤ 8
  ·rw [decide_eq_true h, decide_eq_false (by omega)]; rfl
  ·rw [decide_eq_false h, decide_eq_true (by omega)]; rfl
 rw [h8]
 cases O2 a.1 <;> cases a2O a.2.1 <;> cases a2O a.2.2.1 <;> cases a3Y a a.2.2.2.1 <;> cases a3Y a a.2.2.2.2.1 <;> cases decide (a.2.2.2.1 = a.2.2.2.2.1) <;> cases decide ((a.2.2.2.2.2.length : Int) ≤ 8) <;> simp
end Go.Ab
set_option linter.unusedVariables false
set_option linter.unusedSimpArgs false
namespace Go.Ab
open Go.RowKit
theorem a7H (a b : Int) : decide (b < a) = !decide (a ≤ b) := by
 by_cases h : a ≤ b
 ·rw [decide_eq_true h, decide_eq_false (by omega)]; rfl
 ·rw [decide_eq_false h, decide_eq_true (by omega)]; rfl
def b5h (t : m9) : Bool := O2 t.1 && (decide ((t.1.length : Int) ≤ 6) && (decide (1 ≤ t.2.1 ∧ t.2.1 ≤ 3) && decide (1 ≤ t.2.2 ∧ t.2.2 ≤ 8)))
def b6y (a b : m9) : Bool := Op.bytesLess a.1 b.1
theorem b5O {t : m9} (o : a0Y t) : a1O t = some (b5h t) := by
 unfold a1O b5h
 rw [a0O _ o.1, P0, P0]
 simp only [Option.bind_some]
 cases O2 t.1 <;> cases decide ((t.1.length : Int) ≤ 6) <;> cases decide (1 ≤ t.2.1 ∧ t.2.1 ≤ 3) <;> rfl
theorem a4j {t : m9} (o : a0Y t) : N1 t = some (b5h t) := by
 unfold N1 b5h
 rw [a2I _ o.1, N5, N5]
 simp only [Option.bind_some]
 cases O2 t.1 <;> cases decide ((t.1.length : Int) ≤ 6) <;> cases decide (1 ≤ t.2.1 ∧ t.2.1 ≤ 3) <;> rfl
def b4w (L : List m9) : Bool := adj b5h b6y none L && decide ((L.length : Int) ≤ 16)
theorem c1C {L : List m9} (oL : (OkL a0Y) L) : a2h L = some (b4w L) := by
 unfold a2h b4w
 refine T4 oL.1 ?_ ?_ ?_
 ·intro k a ha
  have h0 : (0 : Int) = ((0 : Nat) : Int) := rfl
  rw [h0]
  simp only [U4, y9 (w8 ha), y7, r9 ha, Option.bind_some, b5O (oL.2 a (B6 ha)), nif]
  rfl
 ·intro i k q a hq ha hi
  simp only [U4, y9 (w8 ha), y7, r9 ha, Option.bind_some, b5O (oL.2 a (B6 ha)), nif, X7, M3 (show i < 9223372036854775807 by omega), w7 hi, r9 hq, b6y]
 ·intro k; simp only [U4, y3, A0]
theorem a9t {L : List m9} (oL : (OkL a0Y) L) : L8 L = some (b4w L) := by
 have e : loop (D5 L) 0 = some (adj b5h b6y none L && true) := by
  refine T4 oL.1 ?_ ?_ ?_
  ·intro k a ha
   have h0 : (0 : Int) = ((0 : Nat) : Int) := rfl
   rw [h0]
   simp only [D5, y9 (w8 ha), y7, r9 ha, Option.bind_some, a4j (oL.2 a (B6 ha)), nif]
   rfl
  ·intro i k q a hq ha hi
   simp only [D5, y9 (w8 ha), y7, r9 ha, Option.bind_some, a4j (oL.2 a (B6 ha)), nif, X7, M3 (show i < 9223372036854775807 by omega), w7 hi, r9 hq, ← a6y (a := q.1) (b := a.1), b6y]
  ·intro k; simp only [D5, y3, A0]
 unfold L8 b4w
 rw [e, a7H, nif, Bool.and_true]
 cases decide ((L.length : Int) ≤ 16)
 ·rw [A0, Bool.and_false]
 ·rw [y7, Bool.and_true]
def b5b (t : y6) : Bool := O2 t.1 && (decide (0 ≤ t.2.1 ∧ t.2.1 ≤ 1439) && (decide (0 ≤ t.2.2.1 ∧ t.2.2.1 ≤ 1439) && (!decide (t.2.1 = t.2.2.1) && (decide (-1 ≤ t.2.2.2.1 ∧ t.2.2.2.1 ≤ 5) && (decide (1 ≤ t.2.2.2.2.1 ∧ t.2.2.2.2.1 ≤ 240) && decide (0 ≤ t.2.2.2.2.2 ∧ t.2.2.2.2.2 ≤ 1000))))))
def b5Y (a b : y6) : Bool := Op.bytesLess a.1 b.1
theorem b5K {t : y6} (o : a5z t) : a1I t = some (b5b t) := by
 unfold a1I b5b Y4
 rw [a0O _ o.1]
 simp only [P0, Option.bind_some, ne_eq, decide_not]
 cases O2 t.1 <;> cases decide (0 ≤ t.2.1 ∧ t.2.1 ≤ 1439) <;> cases decide (0 ≤ t.2.2.1 ∧ t.2.2.1 ≤ 1439) <;> cases decide (t.2.1 = t.2.2.1) <;> cases decide (-1 ≤ t.2.2.2.1 ∧ t.2.2.2.1 ≤ 5) <;> cases decide (1 ≤ t.2.2.2.2.1 ∧ t.2.2.2.2.1 ≤ 240) <;> rfl
theorem a8I {t : y6} (o : a5z t) : Y0 t = some (b5b t) := by
 unfold Y0 b5b a0w
 rw [a2I _ o.1]
 simp only [N5, Option.bind_some, ne_eq, decide_not]
 cases O2 t.1 <;> cases decide (0 ≤ t.2.1 ∧ t.2.1 ≤ 1439) <;> cases decide (0 ≤ t.2.2.1 ∧ t.2.2.1 ≤ 1439) <;> cases decide (t.2.1 = t.2.2.1) <;> cases decide (-1 ≤ t.2.2.2.1 ∧ t.2.2.2.1 ≤ 5) <;> cases decide (1 ≤ t.2.2.2.2.1 ∧ t.2.2.2.2.1 ≤ 240) <;> rfl
def b3R (L : List y6) : Bool := adj b5b b5Y none L && decide ((L.length : Int) ≤ 12)
theorem c2P {L : List y6} (oL : (OkL a5z) L) : a2q L = some (b3R L) := by
 unfold a2q b3R
 refine T4 oL.1 ?_ ?_ ?_
 ·intro k a ha
  have h0 : (0 : Int) = ((0 : Nat) : Int) := rfl
  rw [h0]
  simp only [U8, y9 (w8 ha), y7, r9 ha, Option.bind_some, b5K (oL.2 a (B6 ha)), nif]
  rfl
 ·intro i k q a hq ha hi
  simp only [U8, y9 (w8 ha), y7, r9 ha, Option.bind_some, b5K (oL.2 a (B6 ha)), nif, X7, M3 (show i < 9223372036854775807 by omega), w7 hi, r9 hq, b5Y]
 ·intro k; simp only [U8, y3, A0]
theorem b4W {L : List y6} (oL : (OkL a5z) L) : V6 L = some (b3R L) := by
 have e : loop (F5 L) 0 = some (adj b5b b5Y none L && true) := by
  refine T4 oL.1 ?_ ?_ ?_
  ·intro k a ha
   have h0 : (0 : Int) = ((0 : Nat) : Int) := rfl
   rw [h0]
   simp only [F5, y9 (w8 ha), y7, r9 ha, Option.bind_some, a8I (oL.2 a (B6 ha)), nif]
   rfl
  ·intro i k q a hq ha hi
   simp only [F5, y9 (w8 ha), y7, r9 ha, Option.bind_some, a8I (oL.2 a (B6 ha)), nif, X7, M3 (show i < 9223372036854775807 by omega), w7 hi, r9 hq, ← a6y (a := q.1) (b := a.1), b5Y]
  ·intro k; simp only [F5, y3, A0]
 unfold V6 b3R
 rw [e, a7H, nif, Bool.and_true]
 cases decide ((L.length : Int) ≤ 12)
 ·rw [A0, Bool.and_false]
 ·rw [y7, Bool.and_true]
def b5o (t : j6) : Bool := decide (0 ≤ t.1 ∧ t.1 ≤ 2000) && decide (10 ≤ t.2 ∧ t.2 ≤ 600)
def a9W (t : j6) : Bool := decide (10 ≤ t.2 ∧ t.2 ≤ 600) && decide (t.1 ≤ 2000)
def a7I (a b : j6) : Bool := decide (a.1 < b.1)
def b0d : List j6 → Bool
 | [] => false
 | a :: _ => decide (a.1 = 0)
def b4G (L : List j6) : Bool := adj b5o a7I none L && (decide (1 ≤ (L.length : Int)) && (decide ((L.length : Int) ≤ 16) && b0d L))
theorem b6T {L : List j6} (h0 : b0d L = true) (hb : ∀ (i : Nat) x y, L[i]? = some x → L[i + 1]? = some y → a7I x y = true) : ∀ (i : Nat) x, L[i]? = some x → 0 ≤ x.1
 | 0, x, hx => by
  cases L with
  | nil => cases hx
  | cons a L =>
   simp only [List.getElem?_cons_zero, Option.some.injEq] at hx
   subst hx
   have : a.1 = 0 := of_decide_eq_true h0
   omega
 | i + 1, x, hx => by
  have hlt := (List.getElem?_eq_some_iff.1 hx).1
  obtain ⟨y, hy⟩ := C5 (L := L) (n := i) (by omega)
  have h1 := b6T h0 hb i y hy
  have h2 : y.1 < x.1 := of_decide_eq_true (hb i y x hy hx)
  omega
theorem c2K {L : List j6} (h0 : b0d L = true) : adj a9W a7I none L = adj b5o a7I none L := by
 refine b7e ?_
 rw [b2I, b2I]
 constructor
 ·rintro ⟨h1, h2⟩
  refine ⟨fun x hx => ?_, h2⟩
  obtain ⟨i, hi⟩ := List.mem_iff_getElem?.1 hx
  have h3 := b6T h0 h2 i x hi
  have h4 := h1 x hx
  unfold a9W at h4
  simp only [Bool.and_eq_true, decide_eq_true_eq] at h4
  unfold b5o
  simp only [Bool.and_eq_true, decide_eq_true_eq]
  exact ⟨⟨h3, h4.2⟩, h4.1⟩
 ·rintro ⟨h1, h2⟩
  refine ⟨fun x hx => ?_, h2⟩
  have h4 := h1 x hx
  unfold b5o at h4
  simp only [Bool.and_eq_true, decide_eq_true_eq] at h4
  unfold a9W
  simp only [Bool.and_eq_true, decide_eq_true_eq]
  exact ⟨h4.2, h4.1.2⟩
theorem c2z {L : List j6} (hL : L.length ≤ 9223372036854775807) : a2n L = some (b4G L) := by
 unfold a2n b4G
 refine T4 hL ?_ ?_ ?_
 ·intro k a ha
  have h0 : (0 : Int) = ((0 : Nat) : Int) := rfl
  rw [h0]
  simp only [U0, a0R, a0i, y9 (w8 ha), y7, r9 ha, Option.bind_some, P0, nif, b5o]
  cases decide (0 ≤ a.1 ∧ a.1 ≤ 2000) <;> cases decide (10 ≤ a.2 ∧ a.2 ≤ 600) <;> rfl
 ·intro i k q a hq ha hi
  simp only [U0, a0R, a0i, y9 (w8 ha), y7, r9 ha, Option.bind_some, P0, nif, X7, M3 (show i < 9223372036854775807 by omega), w7 hi, r9 hq, a7I, b5o, a7H q.1 a.1, b8L]
  cases decide (0 ≤ a.1 ∧ a.1 ≤ 2000) <;> cases decide (10 ≤ a.2 ∧ a.2 ≤ 600) <;> cases decide (q.1 < a.1) <;> rfl
 ·intro k
  simp only [U0, y3, A0]
  cases L with
  | nil => rfl
  | cons a L =>
   have i0 : ix (a :: L) 0 = some a := rfl
   rw [i0, Option.bind_some]
   simp only [b0d]
   cases decide ((1 : Int) ≤ ((a :: L).length : Int)) <;> cases decide (((a :: L).length : Int) ≤ 16) <;> rfl
theorem b4U {L : List j6} (hL : L.length ≤ 9223372036854775807) : V5 L = some (b4G L) := by
 have e : loop (F7 L) 0 = some (adj a9W a7I none L && true) := by
  refine T4 hL ?_ ?_ ?_
  ·intro k a ha
   have h0 : (0 : Int) = ((0 : Nat) : Int) := rfl
   rw [h0]
   simp only [F7, a0U, y9 (w8 ha), y7, r9 ha, Option.bind_some, N5, nif, a9W, a7H a.1 2000]
   cases decide (a.1 ≤ 2000) <;> cases decide (10 ≤ a.2 ∧ a.2 ≤ 600) <;> rfl
  ·intro i k q a hq ha hi
   simp only [F7, a0U, y9 (w8 ha), y7, r9 ha, Option.bind_some, N5, nif, X7, M3 (show i < 9223372036854775807 by omega), w7 hi, r9 hq, a7I, a9W, a7H a.1 2000]
   have ed : decide (a.1 ≤ q.1) = !decide (q.1 < a.1) := by
    by_cases h : q.1 < a.1
    ·rw [decide_eq_true h, decide_eq_false (by omega)]; rfl
    ·rw [decide_eq_false h, decide_eq_true (by omega)]; rfl
   rw [ed, nif]
   cases decide (a.1 ≤ 2000) <;> cases decide (10 ≤ a.2 ∧ a.2 ≤ 600) <;> cases decide (q.1 < a.1) <;> rfl
  ·intro k; simp only [F7, y3, A0]
 unfold V5 b4G
 rw [e]
 cases L with
 | nil => rfl
 | cons a L =>
  have i0 : ix (a :: L) 0 = some a := rfl
  have h1 : decide (((a :: L).length : Int) < 1) = false := decide_eq_false (by rw [List.length_cons]; omega)
  have h2 : decide ((1 : Int) ≤ ((a :: L).length : Int)) = true := decide_eq_true (by rw [List.length_cons]; omega)
  rw [h1, h2, A0, i0, Option.bind_some, a7H, nif]
  cases h3 : decide (((a :: L).length : Int) ≤ 16)
  ·rw [A0]; simp
  ·rw [y7]
   by_cases h4 : a.1 = 0
   ·have hf : b0d (a :: L) = true := decide_eq_true h4
    rw [decide_eq_false (fun h => h h4), A0, c2K hf, hf]; simp
   ·have hf : b0d (a :: L) = false := decide_eq_false h4
    rw [decide_eq_true h4, y7, hf]; simp
end Go.Ab
set_option linter.unusedVariables false
set_option linter.unusedSimpArgs false
namespace Go.Ab
open Go.RowKit
theorem b6n {L : List Int} (hL : L.length ≤ 9223372036854775807) (lo hi : Int) : Y2 L lo hi = some (L.all fun x => decide (lo ≤ x ∧ x ≤ hi)) := by
 unfold Y2 D9 F4
 obtain ⟨r, e, hr⟩ := G3 (body := C2 L lo hi) (L := L) (s0 := 0) (Q := fun r => (!decide (0 ≤ r)) = L.all fun x => decide (lo ≤ x ∧ x ≤ hi)) (fun i s => s = (i : Int) ∧ ∀ x ∈ L.take i, decide (lo ≤ x ∧ x ≤ hi) = true) hL ⟨rfl, by simp⟩
  (by
   rintro i _ k a ha hi2 ⟨rfl, hI⟩ hk
   simp only [C2, a0a, y9 (w8 ha), y7, r9 ha, Option.bind_some, N5, w7 hi2, nif]
   cases hp : decide (lo ≤ a ∧ a ≤ hi)
   ·rw [A0]
    refine ⟨_, rfl, ?_⟩
    rw [decide_eq_true (by omega)]
    have : (L.all fun x => decide (lo ≤ x ∧ x ≤ hi)) = false := List.all_eq_false.2 ⟨a, B6 ha, by rw [hp]; simp⟩
    rw [this]; rfl
   ·rw [y7]
    refine hk _ ⟨rfl, fun x hx => ?_⟩
    rw [A7 ha] at hx
    rcases List.mem_append.1 hx with hx | hx
    ·exact hI x hx
    ·rw [List.mem_singleton.1 hx]; exact hp)
  (by
   rintro _ k ⟨rfl, hI⟩
   rw [C3 (Nat.le_refl _)] at hI
   simp only [C2, y3, A0]
   refine ⟨_, rfl, ?_⟩
   rw [List.all_eq_true.2 hI]; rfl)
 rw [e]
 simp only [Option.bind_some, hr]
def b6E : List Int → List Int → Bool
 | _, [] => false
 | [], _ :: _ => true
 | a :: s, b :: t => if a ≠ b then decide (a < b) else b6E s t
def b3b : List Int → List Int → Int
 | [], [] => 0
 | [], _ :: _ => -1
 | _ :: _, [] => 1
 | a :: s, b :: t => if a6b a b ≠ 0 then a6b a b else b3b s t
theorem b8b : ∀ a b : List Int, decide (0 ≤ b3b a b) = !b6E a b
 | [], [] => rfl
 | [], _ :: _ => rfl
 | _ :: _, [] => rfl
 | a :: s, b :: t => by
  have ih := b8b s t
  have e1 : b3b (a :: s) (b :: t) = (if a6b a b ≠ 0 then a6b a b else b3b s t) := rfl
  have e2 : b6E (a :: s) (b :: t) = (if a ≠ b then decide (a < b) else b6E s t) := rfl
  rcases Int.lt_trichotomy a b with h | h | h
  ·have e : a6b a b = -1 := by unfold a6b; rw [if_pos h]
   have e3 : b3b (a :: s) (b :: t) = -1 := by rw [e1, e]; rfl
   rw [e3, e2, if_pos (by omega), decide_eq_true h]; rfl
  ·subst h
   have e : a6b a a = 0 := by unfold a6b; rw [if_neg (by omega), if_neg (by omega)]
   have e3 : b3b (a :: s) (a :: t) = b3b s t := by rw [e1, e]; rfl
   rw [e3, e2, if_neg (fun h => h rfl)]; exact ih
  ·have e : a6b a b = 1 := by unfold a6b; rw [if_neg (by omega), if_pos h]
   have e3 : b3b (a :: s) (b :: t) = 1 := by rw [e1, e]; rfl
   rw [e3, e2, if_pos (by omega), show decide (a < b) = false from decide_eq_false (by omega)]; rfl
theorem b6x {a b : List Int} (ha : a.length ≤ 9223372036854775807) : Z0 a b = some (b6E a b) := by
 unfold Z0
 have := a9n (body := J4 a b) (L := a) (fun i => b6E (a.drop i) (b.drop i)) ha ?_ ?_
 ·simpa using this
 ·intro i k x hx hi hk
  simp only [J4, J2, y9 (w8 hx), y7, r9 hx, Option.bind_some, w7 hi, hk]
  rw [L3 hx]
  by_cases hb : i < b.length
  ·obtain ⟨y, hy⟩ := C5 hb
   rw [y9 hb, y7, r9 hy, Option.bind_some, L3 hy, Option.bind_some]
   simp only [b6E, A4]
   split <;> rfl
  ·rw [decide_eq_false (by omega), A0, show b.drop i = [] from List.drop_eq_nil_of_le (by omega), decide_eq_false (by have := w8 hx; omega)]
   rfl
 ·intro k
  simp only [J4, J2, y3, A0]
  rw [List.drop_length]
  by_cases hb : a.length < b.length
  ·obtain ⟨y, hy⟩ := C5 hb
   rw [L3 hy, decide_eq_true (by omega)]; rfl
  ·rw [show b.drop a.length = [] from List.drop_eq_nil_of_le (by omega), decide_eq_false (by omega)]; rfl
theorem b6R {a b : List Int} (ha : a.length ≤ 9223372036854775807) : B2 a b = some (b3b a b) := by
 unfold B2
 have := a9n (body := B4 a b) (L := a) (fun i => b3b (a.drop i) (b.drop i)) ha ?_ ?_
 ·simpa using this
 ·intro i k x hx hi hk
  simp only [B4, y9 (w8 hx), y7, r9 hx, Option.bind_some, w7 hi, hk]
  rw [L3 hx]
  by_cases hb : i < b.length
  ·obtain ⟨y, hy⟩ := C5 hb
   rw [decide_eq_false (by omega), A0, r9 hy, Option.bind_some, L3 hy, b2D, Option.bind_some]
   simp only [b3b, A4]
   split <;> rfl
  ·rw [decide_eq_true (by omega), y7, show b.drop i = [] from List.drop_eq_nil_of_le (by omega)]
   rfl
 ·intro k
  simp only [B4, y3, A0]
  rw [List.drop_length]
  by_cases hb : a.length < b.length
  ·obtain ⟨y, hy⟩ := C5 hb
   rw [L3 hy, decide_eq_true (by omega)]; rfl
  ·rw [show b.drop a.length = [] from List.drop_eq_nil_of_le (by omega), decide_eq_false (by omega)]; rfl
def b5L (L : List Int) : Bool := (L.all fun x => decide (-12 ≤ x ∧ x ≤ 23)) && (decide ((2 : Int) ≤ (L.length : Int)) && decide ((L.length : Int) ≤ 8))
theorem b4Z {L : List Int} (hL : L.length ≤ 9223372036854775807) : V9 L = some ((L.all fun x => decide (-12 ≤ x ∧ x ≤ 23)) && decide ((L.length : Int) ≤ 64)) := by
 unfold V9
 have := b4i (body := H7 L) (L := L) (fun t => (t.all fun x => decide (-12 ≤ x ∧ x ≤ 23)) && decide ((L.length : Int) ≤ 64)) hL ?_ ?_
 ·exact this
 ·intro i k a t ha hi hk
  simp only [H7, U2, y9 (w8 ha), y7, r9 ha, Option.bind_some, P0, w7 hi, nif, hk, List.all_cons]
  cases decide (-12 ≤ a ∧ a ≤ 23) <;> simp
 ·intro k
  simp only [H7, y3, A0]
  simp
theorem a8Q {L : List Int} (hL : L.length ≤ 9223372036854775807) : Y1 L = some (b5L L) := by
 unfold Y1 b5L
 rw [b4Z hL, Option.bind_some]
 cases (L.all fun x => decide (-12 ≤ x ∧ x ≤ 23))
 ·rfl
 ·by_cases h : (L.length : Int) ≤ 64
  ·rw [decide_eq_true h]
   cases decide ((2 : Int) ≤ (L.length : Int)) <;> rfl
  ·rw [decide_eq_false h, decide_eq_false (show ¬ (L.length : Int) ≤ 8 by omega)]
   simp
theorem b1l {L : List Int} (hL : L.length ≤ 9223372036854775807) : a0n L = some (b5L L) := by
 unfold a0n b5L
 rw [b6n hL, Option.bind_some]
 cases decide ((2 : Int) ≤ (L.length : Int)) <;> cases decide ((L.length : Int) ≤ 8) <;> simp
def b2Y (A : List (List Int)) : Bool := adj b5L b6E none A && decide ((A.length : Int) ≤ 12)
theorem c2l {L : List (List Int)} (oL : (OkL (OkL OkI)) L) : a2A L = some (b2Y L) := by
 unfold a2A b2Y
 refine T4 oL.1 ?_ ?_ ?_
 ·intro k a ha
  have h0 : (0 : Int) = ((0 : Nat) : Int) := rfl
  rw [h0]
  simp only [U7, y9 (w8 ha), y7, r9 ha, Option.bind_some, a8Q (oL.2 a (B6 ha)).1, nif]
  rfl
 ·intro i k q a hq ha hi
  simp only [U7, y9 (w8 ha), y7, r9 ha, Option.bind_some, a8Q (oL.2 a (B6 ha)).1, nif, X7, M3 (show i < 9223372036854775807 by omega), w7 hi, r9 hq, b6x (oL.2 q (B6 hq)).1]
 ·intro k; simp only [U7, y3, A0]
theorem b1O {L : List (List Int)} (oL : (OkL (OkL OkI)) L) : P7 L = some (b2Y L) := by
 have e : loop (E0 L) 0 = some (adj b5L b6E none L && true) := by
  refine T4 oL.1 ?_ ?_ ?_
  ·intro k a ha
   have h0 : (0 : Int) = ((0 : Nat) : Int) := rfl
   rw [h0]
   simp only [E0, y9 (w8 ha), y7, r9 ha, Option.bind_some, b1l (oL.2 a (B6 ha)).1, nif]
   rfl
  ·intro i k q a hq ha hi
   simp only [E0, y9 (w8 ha), y7, r9 ha, Option.bind_some, b1l (oL.2 a (B6 ha)).1, nif, X7, M3 (show i < 9223372036854775807 by omega), w7 hi, r9 hq, b6R (oL.2 q (B6 hq)).1, b8b]
  ·intro k; simp only [E0, y3, A0]
 unfold P7 b2Y
 rw [e, a7H, nif, Bool.and_true]
 cases decide ((L.length : Int) ≤ 12)
 ·rw [A0, Bool.and_false]
 ·rw [y7, Bool.and_true]
theorem c1z : a1o = H9 := by
 funext k st
 obtain ⟨a, b⟩ := st
 rfl
noncomputable def c6w (a b : Int) : Int := (D7 a b).getD 0
theorem c3e {a b : Int} (ha : 0 ≤ a) (hb : 0 ≤ b ∧ b ≤ 1000000) : D7 a b = some (c6w a b) := by
 have key : ∃ r, D7 a b = some r ∧ True := by
  unfold D7
  refine b5Z (fun st => 0 ≤ st.1 ∧ 0 ≤ st.2) (fun st => st.2.toNat) ⟨ha, hb.1⟩ (a7Q (by dsimp only; omega)) ?_
  rintro ⟨x, y⟩ k ⟨h1, h2⟩ hk
  dsimp only at h1 h2 hk
  simp only [H9]
  by_cases h : y = 0
  ·rw [decide_eq_false (fun h' => h' h), A0]; exact ⟨_, rfl, trivial⟩
  ·rw [decide_eq_true h, y7, y1 h]
   have e : Int.tmod x y = x % y := Int.tmod_eq_emod_of_nonneg h1
   have l1 := Int.emod_nonneg x h
   have l2 := Int.emod_lt_of_pos x (show 0 < y by omega)
   exact hk _ ⟨h2, by dsimp only; omega⟩ (by dsimp only; omega)
 obtain ⟨r, hr, _⟩ := key
 unfold c6w
 rw [hr]; rfl
def c2c (a : j6) : Bool := decide (1 ≤ a.1 ∧ a.1 ≤ 1000000) && decide (1 ≤ a.2 ∧ a.2 ≤ 1000000)
noncomputable def a9F (a : j6) : Bool := c2c a && decide (c6w a.1 a.2 = 1)
theorem b6S (a : j6) : a2d a = some (a9F a) := by
 unfold a2d a0V a9F c2c a2N
 rw [c1z]
 simp only [P0, Option.bind_some]
 by_cases h1 : 1 ≤ a.1 ∧ a.1 ≤ 1000000
 ·by_cases h2 : 1 ≤ a.2 ∧ a.2 ≤ 1000000
  ·have := c3e (a := a.1) (b := a.2) (by omega) ⟨by omega, h2.2⟩
   unfold D7 at this
   rw [decide_eq_true h1, decide_eq_true h2, this]; rfl
  ·rw [decide_eq_true h1, decide_eq_false h2]; rfl
 ·rw [decide_eq_false h1]; rfl
theorem a7i (a : j6) : W2 a = some (a9F a) := by
 unfold W2 a9F c2c
 simp only [N5, Option.bind_some]
 by_cases h1 : 1 ≤ a.1 ∧ a.1 ≤ 1000000
 ·by_cases h2 : 1 ≤ a.2 ∧ a.2 ≤ 1000000
  ·rw [decide_eq_true h1, decide_eq_true h2, c3e (a := a.1) (b := a.2) (by omega) ⟨by omega, h2.2⟩]; rfl
  ·rw [decide_eq_true h1, decide_eq_false h2]; rfl
 ·rw [decide_eq_false h1]; rfl
noncomputable def b0t (a : j6) : Bool := a9F a && !decide (w64 (2 * a.2) ≤ a.1)
def b0s (q a : j6) : Bool := decide (w64 (q.1 * a.2) < w64 (a.1 * q.2))
theorem c3S (q a : j6) : ∃ c, W7 q a = some c ∧ decide (0 ≤ c) = !b0s q a := by
 unfold W7 b0s
 by_cases h : w64 (q.1 * a.2) < w64 (a.1 * q.2)
 ·rw [decide_eq_true h, y7]; exact ⟨_, rfl, rfl⟩
 ·rw [decide_eq_false h, A0]
  cases decide (w64 (a.1 * q.2) < w64 (q.1 * a.2))
  ·exact ⟨_, rfl, rfl⟩
  ·exact ⟨_, rfl, rfl⟩
theorem c3X (q a : j6) : ∃ c, M9 a q = some c ∧ decide (c ≤ 0) = !b0s q a := by
 refine ⟨a6b (w64 (a.1 * q.2)) (w64 (q.1 * a.2)), ?_, ?_⟩
 ·unfold M9
  rw [b2D]; rfl
 ·unfold a6b b0s
  by_cases h : w64 (q.1 * a.2) < w64 (a.1 * q.2)
  ·rw [if_neg (by omega), if_pos h, decide_eq_true h]; rfl
  ·rw [decide_eq_false h]
   by_cases h2 : w64 (a.1 * q.2) < w64 (q.1 * a.2)
   ·rw [if_pos h2]; rfl
   ·rw [if_neg h2, if_neg h]; rfl
def b5X : List j6 → Bool
 | [] => false
 | a :: _ => decide (a.1 = 1) && decide (a.2 = 1)
noncomputable def b7q (t : z7) : Bool := O2 t.1 && (decide ((t.2.length : Int) = 12) && (adj b0t b0s none t.2 && b5X t.2))
theorem c1r {t : z7} (o0 : OkS t.1) (o1 : t.2.length ≤ 9223372036854775807) : a2x t = some (b7q t) := by
 unfold a2x b7q
 rw [a0O _ o0, Option.bind_some, nif]
 cases O2 t.1
 ·rfl
 rw [y7, Bool.true_and]
 by_cases hl : (t.2.length : Int) = 12
 ·rw [decide_eq_false (fun h => h hl), A0, decide_eq_true hl, Bool.true_and]
  refine T4 o1 ?_ ?_ ?_
  ·intro k a ha
   have h0 : (0 : Int) = ((0 : Nat) : Int) := rfl
   rw [h0]
   simp only [U3, y9 (w8 ha), y7, r9 ha, Option.bind_some, b6S, nif, b0t]
   cases a9F a <;> cases decide (w64 (2 * a.2) ≤ a.1) <;> rfl
  ·intro i k q a hq ha hi
   obtain ⟨c, e1, e2⟩ := c3S q a
   simp only [U3, y9 (w8 ha), y7, r9 ha, Option.bind_some, b6S, nif, X7, M3 (show i < 9223372036854775807 by omega), w7 hi, r9 hq, e1, e2, b0t]
   cases a9F a <;> cases decide (w64 (2 * a.2) ≤ a.1) <;> rfl
  ·intro k
   simp only [U3, y3, A0]
   cases hT : t.2 with
   | nil => rw [hT] at hl; simp at hl
   | cons a L =>
    have i0 : ix (a :: L) 0 = some a := rfl
    rw [i0, Option.bind_some, Option.bind_some]
    simp only [b5X]
    cases decide (a.1 = 1) <;> rfl
 ·rw [decide_eq_true hl, y7, decide_eq_false hl]; rfl
theorem b3W {t : z7} (o0 : OkS t.1) (o1 : t.2.length ≤ 9223372036854775807) : S6 t = some (b7q t) := by
 unfold S6 b7q
 rw [a2I _ o0, Option.bind_some, nif]
 cases O2 t.1
 ·rfl
 rw [y7, Bool.true_and]
 by_cases hl : (t.2.length : Int) = 12
 ·rw [decide_eq_false (fun h => h hl), A0, decide_eq_true hl, Bool.true_and]
  have e : loop (F0 t) 0 = some (adj b0t b0s none t.2 && true) := by
   refine T4 o1 ?_ ?_ ?_
   ·intro k a ha
    have h0 : (0 : Int) = ((0 : Nat) : Int) := rfl
    rw [h0]
    simp only [F0, y9 (w8 ha), y7, r9 ha, Option.bind_some, a7i, nif, b0t]
    cases a9F a <;> cases decide (w64 (2 * a.2) ≤ a.1) <;> rfl
   ·intro i k q a hq ha hi
    obtain ⟨c, e1, e2⟩ := c3X q a
    simp only [F0, y9 (w8 ha), y7, r9 ha, Option.bind_some, a7i, nif, X7, M3 (show i < 9223372036854775807 by omega), w7 hi, r9 hq, e1, e2, b0t]
    cases a9F a <;> cases decide (w64 (2 * a.2) ≤ a.1) <;> rfl
   ·intro k; simp only [F0, y3, A0]
  rw [e, Bool.and_true]
  cases hT : t.2 with
  | nil => rw [hT] at hl; simp at hl
  | cons a L =>
   have i0 : ix (a :: L) 0 = some a := rfl
   rw [i0, Option.bind_some, nif, Bool.and_true]
   simp only [b5X]
   cases (decide (a.1 = 1) && decide (a.2 = 1))
   ·rw [A0, Bool.and_false]
   ·rw [y7, Bool.and_true]
 ·rw [decide_eq_true hl, y7, decide_eq_false hl]; rfl
end Go.Ab
set_option linter.unusedVariables false
set_option linter.unusedSimpArgs false
namespace Go.Ab
open Go.RowKit
def atP : List p4 → List UInt8 → Int
 | [], _ => -1
 | p :: A, n => if p.1 = n then 0 else if atP A n < 0 then -1 else atP A n + 1
theorem b9l (A : List p4) (n : List UInt8) : -1 ≤ atP A n ∧ atP A n < A.length := by
 induction A with
 | nil => simp [atP]
 | cons p A ih =>
  simp only [atP, List.length_cons]
  split
  ·omega
  ·split <;> omega
theorem b7E {A : List p4} {n : List UInt8} {body : (Int → Option Int) → Int → Option Int} (hA : A.length ≤ 9223372036854775807)
  (more : ∀ (i : Nat) k a, A[i]? = some a → i < 9223372036854775807 → body k (i : Int) = bif decide (a.1 = n) then some (i : Int) else k ((i + 1 : Nat) : Int))
  (done : ∀ k, body k (A.length : Int) = some (-1)) : loop body 0 = some (atP A n) := by
 have := a9n (L := A) (body := body) (fun i => if atP (A.drop i) n < 0 then -1 else (i : Int) + atP (A.drop i) n) hA ?_ ?_
 ·rw [this]
  simp only [List.drop_zero]
  have := b9l A n
  split <;> congr 1 <;> omega
 ·intro i k a ha hi hk
  rw [more i k a ha hi, L3 ha]
  simp only [A4, atP]
  split
  ·simp
  ·rw [hk]
   have := b9l (A.drop (i + 1)) n
   split <;> congr 1
   split <;> omega
 ·intro k
  rw [done, List.drop_length]
  rfl
theorem b3g (A : List p4) (n : List UInt8) (hA : A.length ≤ 9223372036854775807) : a1i A n = some (atP A n) := by
 unfold a1i
 refine b7E hA ?_ ?_
 ·intro i k a ha hi
  simp only [W1, y9 (w8 ha), r9 ha, Option.bind_some, y7, w7 hi]
 ·intro k; simp [W1]
theorem b6F (A : List p4) (n : List UInt8) (hA : A.length ≤ 9223372036854775807) : a0x A n = some (atP A n) := by
 unfold a0x E6
 rw [b7E hA]
 ·rfl
 ·intro i k a ha hi
  simp only [C6, a0J, y9 (w8 ha), r9 ha, Option.bind_some, y7, w7 hi]
 ·intro k; simp [C6]
abbrev a4s (A : List p4) : Prop := OkL a6i A
theorem c1E {α : Type} {L : List α} {n : Int} {a : α} (h : ix L n = some a) : a ∈ L := List.mem_of_getElem? (B9 h).2
theorem c3b {A : List p4} (hA : a4s A) (i : Int) (p : p4) (k : Int → Option Bool) : O8 A p i k = I9 A p i k := by
 funext k1 j
 unfold O8 I9
 cases h1 : ix p.2.2 j with
 | none => simp only [h1, Option.bind_none]
 | some n =>
  simp only [h1, Option.bind_some, b3g A n hA.1, b6F A n hA.1, a6y]
theorem c1J {A : List p4} (hA : a4s A) (h24 : A.length ≤ 24) (k : Int → Option Bool) (i : Int) : L7 A k i = F9 A k i := by
 unfold L7 F9
 rw [decide_eq_true (p := (A.length : Int) ≤ 24) (by omega)]
 cases h1 : ix A i with
 | none => simp only [h1, Option.bind_none]
 | some p =>
  simp only [h1, Option.bind_some, a0O p.1 (hA.2 p (c1E h1)).1, a2I p.1 (hA.2 p (c1E h1)).1, P0, N5, a6y, O5, I7, c3b hA]
structure PP (A : List p4) (p : p4) : Prop where
 name : O2 p.1 = true
 born : 0 ≤ p.2.1 ∧ p.2.1 ≤ 3000
 few : p.2.2.length ≤ 4
 tch : ∀ t ∈ p.2.2, ∃ q, 0 ≤ atP A t ∧ ix A (atP A t) = some q ∧ q.2.1 < p.2.1
 srt : ∀ (j : Nat) x y, p.2.2[j]? = some x → p.2.2[j + 1]? = some y → Op.bytesLess x y = true
structure VP (A : List p4) : Prop where
 len : A.length ≤ 24
 each : ∀ p ∈ A, PP A p
 srt : ∀ (j : Nat) x y, A[j]? = some x → A[j + 1]? = some y → Op.bytesLess x.1 y.1 = true
theorem b7X {A : List p4} (hA : a4s A) : ∃ r, V4 A = some r ∧ (r = true → VP A) := by
 unfold V4
 refine G3 (L := A) (fun i s => s = (i : Int) ∧ (∀ p ∈ A.take i, PP A p) ∧ ∀ (j : Nat) x y, j + 1 < i → A[j]? = some x → A[j + 1]? = some y → Op.bytesLess x.1 y.1 = true) hA.1 ⟨rfl, by simp, fun _ _ _ h => by omega⟩ ?_ ?_
 ·rintro i _ k p hp hi ⟨rfl, hI, hS⟩ hk
  have ho := hA.2 p (B6 hp)
  have hpl : p.2.2.length ≤ 9223372036854775807 := ho.2.2.1
  have inner : O2 p.1 = true → (0 ≤ p.2.1 ∧ p.2.1 ≤ 3000) → p.2.2.length ≤ 4 → (∀ (j : Nat) x, j + 1 = i → A[j]? = some x → Op.bytesLess x.1 p.1 = true) → ∃ r, O5 A p (i : Int) k = some r ∧ (r = true → VP A) := by
   intro hn hb hf hprev
   unfold O5
   refine G3 (L := p.2.2) (fun j s => s = (j : Int) ∧ (∀ t ∈ p.2.2.take j, ∃ q, 0 ≤ atP A t ∧ ix A (atP A t) = some q ∧ q.2.1 < p.2.1) ∧ ∀ (m : Nat) x y, m + 1 < j → p.2.2[m]? = some x → p.2.2[m + 1]? = some y → Op.bytesLess x y = true) hpl ⟨rfl, by simp, fun _ _ _ h => by omega⟩ ?_ ?_
   ·rintro j _ k1 n hn hj ⟨rfl, hJ, hT⟩ hk1
    have hat := b9l A n
    simp only [O8, y9 (w8 hn), r9 hn, Option.bind_some, y7, b3g A n hA.1, w7 hj, A4]
    split
    ·exact ⟨_, rfl, fun h => by cases h⟩
    ·obtain ⟨q, hq⟩ := C5 (L := A) (n := (atP A n).toNat) (by omega)
     have e : ix A (atP A n) = some q := by unfold ix; rw [if_pos (by omega)]; exact hq
     simp only [e, Option.bind_some, A4]
     split
     ·exact ⟨_, rfl, fun h => by cases h⟩
     ·have hJ' : ∀ t ∈ p.2.2.take (j + 1), ∃ q, 0 ≤ atP A t ∧ ix A (atP A t) = some q ∧ q.2.1 < p.2.1 := by
       intro t ht
       rw [A7 hn] at ht
       rcases List.mem_append.1 ht with ht | ht
       ·exact hJ t ht
       ·rw [List.mem_singleton.1 ht]; exact ⟨q, by omega, e, by omega⟩
      split
      ·rename_i h0
       obtain ⟨j', rfl⟩ : ∃ j', j = j' + 1 := ⟨j - 1, by omega⟩
       obtain ⟨m, hm⟩ := C5 (L := p.2.2) (n := j') (by have := w8 hn; omega)
       rw [M3 (by omega), r9 hm]
       simp only [Option.bind_some]
       cases hless : Op.bytesLess m n
       ·exact ⟨_, rfl, fun h => by cases h⟩
       ·refine hk1 _ ⟨rfl, hJ', ?_⟩
        intro a x y ha hx hy
        by_cases h2 : a + 1 = j' + 1
        ·have : a = j' := by omega
         subst this
         rw [hm] at hx; rw [hn] at hy
         simp only [Option.some.injEq] at hx hy
         subst hx; subst hy; exact hless
        ·exact hT a x y (by omega) hx hy
      ·exact hk1 _ ⟨rfl, hJ', fun a x y ha hx hy => by omega⟩
   ·rintro _ k1 ⟨rfl, hJ, hT⟩
    simp only [O8, y3, A0, w7 hi]
    rw [C3 (Nat.le_refl _)] at hJ
    refine hk _ ⟨rfl, ?_, ?_⟩
    ·intro x hx
     rw [A7 hp] at hx
     rcases List.mem_append.1 hx with hx | hx
     ·exact hI x hx
     ·rw [List.mem_singleton.1 hx]
      exact ⟨hn, hb, hf, hJ, fun j x y hx hy => hT j x y (w8 hy) hx hy⟩
    ·intro j x y hj hx hy
     by_cases h2 : j + 1 = i
     ·rw [h2, hp] at hy
      simp only [Option.some.injEq] at hy
      subst hy; exact hprev j x h2 hx
     ·exact hS j x y (by omega) hx hy
  simp only [L7, y9 (w8 hp), r9 hp, Option.bind_some, y7, a0O p.1 ho.1, P0, A4]
  cases hn : O2 p.1
  ·exact ⟨_, rfl, fun h => by cases h⟩
  simp only [Bool.not_true, A0, ← decide_not, A4]
  split
  ·exact ⟨_, rfl, fun h => by cases h⟩
  split
  ·exact ⟨_, rfl, fun h => by cases h⟩
  split
  ·obtain ⟨i', rfl⟩ : ∃ i', i = i' + 1 := ⟨i - 1, by omega⟩
   obtain ⟨m, hm⟩ := C5 (L := A) (n := i') (by have := w8 hp; omega)
   rw [M3 (by omega), r9 hm]
   simp only [Option.bind_some]
   cases hless : Op.bytesLess m.1 p.1
   ·exact ⟨_, rfl, fun h => by cases h⟩
   ·refine inner hn (by omega) (by omega) ?_
    intro j x hj hx
    have : j = i' := by omega
    subst this
    rw [hm] at hx
    simp only [Option.some.injEq] at hx
    subst hx; exact hless
  ·exact inner hn (by omega) (by omega) (fun j x hj hx => by omega)
 ·rintro _ k ⟨rfl, hI, hS⟩
  simp only [L7, y3, A0]
  rw [C3 (Nat.le_refl _)] at hI
  exact ⟨_, rfl, fun h => ⟨by have := of_decide_eq_true h; omega, hI, fun j x y hx hy => hS j x y (w8 hy) hx hy⟩⟩
theorem b8w {A : List p4} (hA : a4s A) : ∃ r, V4 A = some r ∧ (24 < A.length → r = false) := by
 obtain ⟨r, h1, h2⟩ := b7X hA
 refine ⟨r, h1, fun h => ?_⟩
 cases r
 ·rfl
 ·have := (h2 rfl).len; omega
theorem c1S {A : List p4} (hA : a4s A) : ∃ r, V4 A = some r ∧ Q4 A = some r ∧ (r = true → VP A) := by
 obtain ⟨r, h1, h3⟩ := b7X hA
 obtain ⟨r', h1', h2⟩ := b8w hA
 rw [h1] at h1'
 simp only [Option.some.injEq] at h1'
 subst h1'
 refine ⟨r, h1, ?_, h3⟩
 unfold Q4
 rw [A4]
 split
 ·rw [h2 (by omega)]
 ·rw [← h1]
  unfold V4
  have : L7 A = F9 A := by funext k i; exact c1J hA (by omega) k i
  rw [this]
end Go.Ab
set_option linter.unusedVariables false
set_option linter.unusedSimpArgs false
namespace Go.Ab
open Go.RowKit
theorem c3k (a : y8) (o : b0L a) (s : b5V a) : ∃ w, a2s a = some w ∧ Y7 a = some w := by
 obtain ⟨oR, o6, oT, o9, o10, o11, o12, o13, o14⟩ := o
 obtain ⟨_, _, _, _, _, _, _, s13, _⟩ := s
 obtain ⟨r1, e1, e2, _⟩ := b8O o13 (by have := s13.1; omega)
 obtain ⟨r2, e3, e4, _⟩ := c1S o14
 unfold a2s Y7
 rw [c3c oR, b6o oR, c1Q o6.1, b4d o6.1, c1r (t := (a.2.2.2.2.2.2.2.1, a.2.2.2.2.2.2.2.2.1)) oT.1 oT.2.1, b3W (t := (a.2.2.2.2.2.2.2.1, a.2.2.2.2.2.2.2.2.1)) oT.1 oT.2.1, c2l o9, b1O o9, c1C o10, a9t o10, c2z o11.1, b4U o11.1, c2P o12, b4W o12, e1, e2, e3, e4]
 simp only [Option.bind_some]
 cases b2N (a.1, a.2.1, a.2.2.1, a.2.2.2.1, a.2.2.2.2.1, a.2.2.2.2.2.1)
 ·exact ⟨false, rfl, rfl⟩
 cases b7y a.2.2.2.2.2.2.1
 ·exact ⟨false, rfl, rfl⟩
 cases b7q (a.2.2.2.2.2.2.2.1, a.2.2.2.2.2.2.2.2.1)
 ·exact ⟨false, rfl, rfl⟩
 cases b2Y a.2.2.2.2.2.2.2.2.2.1
 ·exact ⟨false, rfl, rfl⟩
 cases b4w a.2.2.2.2.2.2.2.2.2.2.1
 ·exact ⟨false, rfl, rfl⟩
 cases b4G a.2.2.2.2.2.2.2.2.2.2.2.1
 ·exact ⟨false, rfl, rfl⟩
 cases b3R a.2.2.2.2.2.2.2.2.2.2.2.2.1
 ·exact ⟨false, rfl, rfl⟩
 cases r1
 ·exact ⟨false, rfl, rfl⟩
 exact ⟨r2, rfl, rfl⟩
end Go.Ab
set_option linter.unusedVariables false
set_option linter.unusedSimpArgs false
namespace Go.Ab
open Go.RowKit
open Go.Lib (itoa decDigits)
theorem b9X : ∀ (k u : Nat), u < 10 ^ (k + 1) → (decDigits u).length ≤ k + 1
 | 0, u, h => by rw [decDigits, dif_pos (by simpa using h)]; simp
 | k + 1, u, h => by
  rw [decDigits]
  split
  ·simp
  ·have := b9X k (u / 10) (by rw [Nat.pow_succ] at h; omega)
   rw [List.length_append, List.length_singleton]; omega
def dg0 (u : Nat) : List UInt8 := if u = 0 then [] else decDigits u
theorem c2G {u : Nat} (h : u ≠ 0) : dg0 u = dg0 (u / 10) ++ [UInt8.ofNat (48 + u % 10)] := by
 unfold dg0
 rw [if_neg h, decDigits]
 by_cases h1 : u < 10
 ·rw [dif_pos h1, if_pos (by omega), Nat.mod_eq_of_lt h1]; rfl
 ·rw [dif_neg h1, if_neg (by omega)]
end Go.Ab
set_option linter.unusedVariables false
set_option linter.unusedSimpArgs false
namespace Go.Ab
open Go.RowKit
open Go.Lib (itoa decDigits)
theorem b6J (L : List Int) (hL : L.length ≤ 1000) : R4 L = some (a0d L.reverse) := by
 unfold R4
 have key : ∀ (m : Nat) (acc : List Int) (n : Nat), m ≤ L.length → m < n → acc = (L.drop m).reverse → iter (E7 L) n ((m : Int) - 1, acc) = some (a0d L.reverse) := by
  intro m
  induction m with
  | zero =>
   intro acc n _ hn ha
   obtain ⟨n, rfl⟩ : ∃ n', n = n' + 1 := ⟨n - 1, by omega⟩
   show E7 L (iter (E7 L) n) _ = _
   simp only [E7]
   rw [decide_eq_false (by omega), A0, ha]
   rfl
  | succ m ih =>
   intro acc n hm hn ha
   obtain ⟨n, rfl⟩ : ∃ n', n = n' + 1 := ⟨n - 1, by omega⟩
   show E7 L (iter (E7 L) n) _ = _
   obtain ⟨x, hx⟩ := C5 (L := L) (n := m) (by omega)
   have e1 : ((m + 1 : Nat) : Int) - 1 = (m : Int) := by omega
   have hl : acc.length ≤ 1000 := by rw [ha]; simp; omega
   simp only [E7, e1]
   rw [decide_eq_true (by omega), y7, r9 hx, Option.bind_some, y1 (p := room (acc.length + [x].length) 1) (show room (acc.length + 1) 1 from ⟨by omega, by omega⟩), A9 (by omega)]
   refine ih _ n (by omega) (by omega) ?_
   rw [ha, L3 hx]; simp
 have hw : w64 ((L.length : Int) - 1) = (L.length : Int) - 1 := A9 (by omega)
 rw [hw]
 exact key L.length [] lim (Nat.le_refl _) (a7Q (by omega)) (by simp)
theorem c0J (n : Int) (h : -9223372036854775808 ≤ n ∧ n ≤ 9223372036854775807) : a0C n = some (itoa n) := by
 unfold a0C
 by_cases h0 : n = 0
 ·subst h0; rw [decide_eq_true rfl, y7]; unfold itoa; rw [if_neg (by omega), decDigits, dif_pos (by decide)]; rfl
 rw [decide_eq_false h0, A0]
 suffices H : ∃ r, loop (Y8 n) (n, []) = some r ∧ r = itoa n by
  obtain ⟨r, e, hr⟩ := H
  rw [e, hr]
 refine b5Z (fun s => (-9223372036854775808 ≤ s.1 ∧ s.1 ≤ 9223372036854775807) ∧ (s.1 ≠ 0 → (s.1 < 0 ↔ n < 0)) ∧ s.1.natAbs * 10 ^ s.2.length ≤ n.natAbs ∧ s.2.length ≤ 19 ∧ dg0 n.natAbs = dg0 s.1.natAbs ++ a0d s.2.reverse)
  (fun s => s.1.natAbs) ⟨h, fun _ => Iff.rfl, by simp, by simp, by simp [a0d]⟩ (by show n.natAbs < lim; unfold lim; omega) ?_
 rintro ⟨v, L⟩ k ⟨hv, hsg, hp, hl, hd⟩ hk
 dsimp only at hv hsg hp hl hd hk
 simp only [Y8]
 by_cases hz : v = 0
 ·subst hz
  rw [decide_eq_false (by simp), A0]
  have hd' : decDigits n.natAbs = a0d L.reverse := by
   have : dg0 n.natAbs = decDigits n.natAbs := if_neg (by omega)
   rw [← this, hd]; simp [dg0]
  by_cases hn : n < 0
  ·rw [decide_eq_true hn, y7, y1 (p := room (L.length + [(45 : Int)].length) 1) (show room (L.length + 1) 1 from ⟨by omega, by omega⟩), b6J _ (by simp; omega)]
   refine ⟨_, rfl, ?_⟩
   unfold itoa
   rw [if_pos hn, hd']
   simp [a0d]
  ·rw [decide_eq_false hn, A0, b6J _ (by omega)]
   refine ⟨_, rfl, ?_⟩
   unfold itoa
   rw [if_neg hn, show n.toNat = n.natAbs by omega, hd']
 ·rw [decide_eq_true hz, y7]
  obtain ⟨q1, q2⟩ : Int.tdiv v 10 = (if v < 0 then -((-v) / 10) else v / 10) ∧ Int.tmod v 10 = (if v < 0 then -((-v) % 10) else v % 10) := by
   split
   ·rename_i hv
    obtain ⟨u, rfl⟩ : ∃ u : Int, v = -u := ⟨-v, by omega⟩
    rw [Int.neg_tdiv, Int.neg_tmod, Int.tdiv_eq_ediv_of_nonneg (by omega), Int.tmod_eq_emod_of_nonneg (by omega), Int.neg_neg]
    exact ⟨rfl, rfl⟩
   ·rw [Int.tdiv_eq_ediv_of_nonneg (by omega), Int.tmod_eq_emod_of_nonneg (by omega)]
    exact ⟨rfl, rfl⟩
  have ht : w64 (Int.tdiv v 10) = Int.tdiv v 10 := A9 (by omega)
  have htn : (Int.tdiv v 10).natAbs = v.natAbs / 10 := by omega
  have hl2 : L.length + 1 ≤ 19 := by
   by_cases h19 : L.length = 19
   ·rw [h19] at hp
    have : 1 ≤ v.natAbs := by omega
    have h2 : 1 * 10 ^ 19 ≤ v.natAbs * 10 ^ 19 := Nat.mul_le_mul_right _ this
    have h3 : n.natAbs ≤ 9223372036854775808 := by omega
    omega
   ·omega
  have key : ∀ d : Int, d = (v.natAbs % 10 : Nat) → ∃ r, R3 v L k d = some r ∧ r = itoa n := by
   rintro d rfl
   unfold R3
   have e1 : IntKind.wrap .u8 (w64 (48 + ((v.natAbs % 10 : Nat) : Int))) = ((48 + v.natAbs % 10 : Nat) : Int) := by
    rw [A9 (by omega)]
    simp only [IntKind.wrap, IntKind.signed, IntKind.bits]
    have : ((48 + ((v.natAbs % 10 : Nat) : Int)) % 2 ^ 8) = 48 + ((v.natAbs % 10 : Nat) : Int) := Int.emod_eq_of_lt (by omega) (by omega)
    simp [this]
    try omega
   rw [e1, ht, y1 (p := room (L.length + [((48 + v.natAbs % 10 : Nat) : Int)].length) 1) (show room (L.length + 1) 1 from ⟨by omega, by omega⟩)]
   refine hk _ ⟨?_, ?_, ?_, ?_, ?_⟩ ?_
   ·dsimp only; omega
   ·dsimp only; intro hne; have := hsg hz; rw [← this]; omega
   ·dsimp only
    rw [htn, List.length_append, List.length_singleton, Nat.pow_succ]
    refine Nat.le_trans ?_ hp
    rw [Nat.mul_comm (10 ^ L.length) 10, ← Nat.mul_assoc]
    exact Nat.mul_le_mul_right _ (Nat.div_mul_le_self _ _)
   ·simp; omega
   ·dsimp only
    rw [hd, htn, c2G (by omega : v.natAbs ≠ 0)]
    simp only [a0d, List.reverse_append, List.reverse_singleton, List.singleton_append, List.map_cons, Int.toNat_natCast, List.append_assoc]
   ·dsimp only; rw [htn]; omega
  have hm : (Int.tmod v 10).natAbs = v.natAbs % 10 := by omega
  by_cases hneg : Int.tmod v 10 < 0
  ·rw [decide_eq_true hneg, y7]
   exact key _ (by rw [A9 (by omega)]; omega)
  ·rw [decide_eq_false hneg, A0]
   exact key _ (by omega)
end Go.Ab
set_option linter.unusedVariables false
set_option linter.unusedSimpArgs false
namespace Go.Ab
open Go.RowKit
open Go.Lib (itoa decDigits join)
theorem b8p {n : Int} (h : -9223372036854775808 ≤ n ∧ n ≤ 9223372036854775807) : X2 n = some (itoa n) := by
 unfold X2 a2X
 rw [y1 ⟨by decide, h.1, h.2⟩]; rfl
theorem b5J {n : Int} (h : 0 ≤ n ∧ n ≤ 9223372036854775807) : (itoa n).length ≤ 19 := by
 unfold itoa
 rw [if_neg (by omega)]
 exact b9X 18 _ (by omega)
def drW : List (List UInt8) := [[110, 111, 116, 101, 115], [112, 104, 114, 97, 115, 101, 115], [115, 116, 114, 111, 107, 101, 115], [109, 97, 114, 107, 115], [105, 116, 101, 109, 115], [108, 101, 115, 115, 111, 110, 115], [112, 101, 114, 115, 111, 110, 115]]
def drN (v0 : y8) : List Int := [(v0.2.2.2.2.2.2.1.length : Int), (v0.2.2.2.2.2.2.2.2.2.1.length : Int), (v0.2.2.2.2.2.2.2.2.2.2.1.length : Int), (v0.2.2.2.2.2.2.2.2.2.2.2.1.length : Int), (v0.2.2.2.2.2.2.2.2.2.2.2.2.1.length : Int), (v0.2.2.2.2.2.2.2.2.2.2.2.2.2.1.length : Int), (v0.2.2.2.2.2.2.2.2.2.2.2.2.2.2.length : Int)]
def drL (v0 : y8) : List (List UInt8) := (drW.zip (drN v0)).map fun p => (p.1 ++ [32]) ++ itoa p.2
theorem b9P {v0 : y8} {body : (Int × List (List UInt8) → Option (List (List UInt8) × Int)) → Int × List (List UInt8) → Option (List (List UInt8) × Int)}
  (more : ∀ (i : Nat) w n acc k, drW[i]? = some w → (drN v0)[i]? = some n → acc.length ≤ 7 → body k ((i : Int), acc) = k (((i + 1 : Nat) : Int), acc ++ [(w ++ [32]) ++ itoa n]))
  (done : ∀ acc k, body k (((drW.zip (drN v0)).length : Int), acc) = some (acc, 0)) : loop body (0, []) = some (drL v0, 0) := by
 suffices H : ∃ r, loop body (0, []) = some r ∧ r = (drL v0, (0 : Int)) by
  obtain ⟨r, e, hr⟩ := H
  rw [e, hr]
 have hlen : (drW.zip (drN v0)).length = 7 := rfl
 refine G3 (L := drW.zip (drN v0)) (fun i st => st.1 = (i : Int) ∧ st.2 = ((drW.zip (drN v0)).take i).map fun p => (p.1 ++ [32]) ++ itoa p.2) (by omega) ⟨rfl, rfl⟩ ?_ ?_
 ·rintro i ⟨_, acc⟩ k p hp hi ⟨rfl, hacc⟩ hk
  dsimp only at hacc
  obtain ⟨w, n⟩ := p
  rw [List.getElem?_zip_eq_some] at hp
  have hlt := w8 hp.1
  have h7 : drW.length = 7 := rfl
  rw [more i w n acc k hp.1 hp.2 (by rw [hacc, List.length_map, List.length_take]; omega)]
  refine hk _ ⟨rfl, ?_⟩
  dsimp only
  rw [A7 (List.getElem?_zip_eq_some.2 hp), List.map_append, hacc]; rfl
 ·rintro ⟨_, acc⟩ k ⟨rfl, hacc⟩
  dsimp only at hacc
  rw [C3 (Nat.le_refl _)] at hacc
  rw [done]
  exact ⟨_, rfl, by rw [hacc]; rfl⟩
theorem c2B {v0 : y8} (o : b0L v0) {i : Nat} {n : Int} (h : (drN v0)[i]? = some n) : 0 ≤ n ∧ n ≤ 9223372036854775807 := by
 obtain ⟨_, o6, _, o9, o10, o11, o12, o13, o14⟩ := o
 have h6 := o6.1
 have h9 := o9.1
 have h10 := o10.1
 have h11 := o11.1
 have h12 := o12.1
 have h13 := o13.1
 have h14 := o14.1
 have hm := List.mem_of_getElem? h
 simp only [drN, List.mem_cons, List.not_mem_nil, or_false] at hm
 rcases hm with rfl | rfl | rfl | rfl | rfl | rfl | rfl <;> omega
theorem c3f {i : Nat} {w : List UInt8} (h : drW[i]? = some w) : w.length ≤ 7 := by
 have hm := List.mem_of_getElem? h
 simp only [drW, List.mem_cons, List.not_mem_nil, or_false] at hm
 rcases hm with rfl | rfl | rfl | rfl | rfl | rfl | rfl <;> decide
theorem c6o {v0 : y8} {i : Nat} {w : List UInt8} {n : Int} (hw : drW[i]? = some w) (hn : (drN v0)[i]? = some n) : (drW.zip (drN v0))[i]? = some (w, n) := List.getElem?_zip_eq_some.2 ⟨hw, hn⟩
theorem b2m (a : y8) (o : b0L a) (s : b5V a) : ∃ r, W5 a = some r ∧ N9 a = some r ∧ (SmL (fun _ => True)) r.1 := by
 obtain ⟨b, e1, e2⟩ := c3k a o s
 unfold W5 N9
 rw [e1, e2, Option.bind_some, Option.bind_some]
 cases b
 ·exact ⟨([], 1), rfl, rfl, by show ((0 : Nat) : Int) ≤ 1048576; omega, fun _ _ => trivial⟩
 rw [Bool.not_true, A0, A0]
 have hr : ∀ {acc : List (List UInt8)} {x : List UInt8}, acc.length ≤ 7 → room (acc.length + [x].length) 16 := fun h => ⟨by simp only [List.length_singleton]; omega, by simp only [List.length_singleton]; omega⟩
 have k1 : loop (U9 a) (0, []) = some (drL a, 0) := by
  refine b9P ?_ ?_
  ·intro i w n acc k hw hn hac
   have hlt := w8 hw
   have hb := c2B o hn
   have hwl := c3f hw
   have hit := b5J hb
   show (bif (decide ((i : Int) < (drW.length : Int))) then ((ix drW (i : Int)).bind fun u13 => (need (u13.length + [32].length < 9223372036854775808) (((ix (drN a) (i : Int)).bind fun u15 => ((a0C u15).bind fun u16 => (need ((u13 ++ [32]).length + u16.length < 9223372036854775808) ((need (room (acc.length + [(u13 ++ [32]) ++ u16].length) 16) (k (w64 ((i : Int) + 1), acc ++ [(u13 ++ [32]) ++ u16])))))))))) else some (acc, 0)) = _
   rw [y9 hlt, y7, r9 hw, Option.bind_some, y1 (by simp only [List.length_singleton]; omega), r9 hn, Option.bind_some, c0J _ (by omega), Option.bind_some, y1 (by simp only [List.length_append, List.length_singleton]; omega), y1 (hr hac), w7 (show i < 9223372036854775807 by have : drW.length = 7 := rfl; omega)]
  ·intro acc k
   rfl
 have k2 : loop (V8 a) (0, []) = some (drL a, 0) := by
  refine b9P ?_ ?_
  ·intro i w n acc k hw hn hac
   have hz := c6o hw hn
   have hlt := w8 hz
   have hb := c2B o hn
   have hwl := c3f hw
   have hit := b5J hb
   show (bif (decide ((i : Int) < ((drW.zip (drN a)).length : Int))) then ((ix (drW.zip (drN a)) (i : Int)).bind fun u11 => (need (u11.1.length + [32].length < 9223372036854775808) (((X2 u11.2).bind fun u13 => (need ((u11.1 ++ [32]).length + u13.length < 9223372036854775808) ((need (room (acc.length + [(u11.1 ++ [32]) ++ u13].length) 16) (k (w64 ((i : Int) + 1), acc ++ [(u11.1 ++ [32]) ++ u13]))))))))) else some (acc, 0)) = _
   rw [y9 hlt, y7, r9 hz, Option.bind_some, y1 (by simp only [List.length_singleton]; omega), b8p (by simp only; omega), Option.bind_some, y1 (by simp only [List.length_append, List.length_singleton]; omega), y1 (hr hac), w7 (show i < 9223372036854775807 by have : (drW.zip (drN a)).length = 7 := rfl; omega)]
  ·intro acc k
   rfl
 rw [k1, k2]
 refine ⟨_, rfl, rfl, ?_, fun _ _ => trivial⟩
 show ((drL a).length : Int) ≤ 1048576
 have : (drL a).length = 7 := rfl
 omega
end Go.Ab
