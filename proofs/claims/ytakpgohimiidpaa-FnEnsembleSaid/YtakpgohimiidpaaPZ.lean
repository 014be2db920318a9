import Derived.Test.YtakpgohimiidpaaPL
import Derived.Test.YtakpgohimiidpaaPS
import Derived.Sort.Walk0
namespace Go.Ab
abbrev Str := List UInt8
end Go.Ab
set_option linter.unusedVariables false
set_option linter.unusedSimpArgs false
namespace Go.Ab
open Go.RowKit
def nb (b : UInt8) : Bool := decide ((97 ≤ b.toNat ∧ b.toNat ≤ 122) ∨ (48 ≤ b.toNat ∧ b.toNat ≤ 57))
def lowHead : List UInt8 → Bool
 | [] => false
 | b :: _ => decide (97 ≤ b.toNat ∧ b.toNat ≤ 122)
def nameOk (s : List UInt8) : Bool := decide (s.length ≤ 10) && (lowHead s && s.all nb)
theorem l01Small_eq (c : Int) : F_spec_l01Small c = some (decide (97 ≤ c ∧ c ≤ 122)) := by
 unfold F_spec_l01Small
 by_cases h : 97 ≤ c <;> simp [h]
theorem l01Digit_eq (c : Int) : F_spec_l01Digit c = some (decide (48 ≤ c ∧ c ≤ 57)) := by
 unfold F_spec_l01Digit
 by_cases h : 48 ≤ c <;> simp [h]
theorem l01Name_eq (s : List UInt8) (hs : s.length ≤ 9223372036854775807) : F_spec_l01Name s = some (nameOk s) := by
 unfold F_spec_l01Name
 cases s with
 | nil => rfl
 | cons b t =>
  have e : loop (F_spec_l01Name_l0 (b :: t)) 0 = some ((b :: t).all nb) := by
   refine loop_all nb hs ?_ ?_
   ·intro i k a ha hi
    simp only [F_spec_l01Name_l0, int_lt (get_lt ha), ix_get ha, Option.bind_some, bif_t, l01Small_eq, l01Digit_eq, w64_succ hi, ← decide_not, bif_dec, nb]
    repeat' split
    all_goals first | rfl | (exfalso; omega)
   ·intro k; simp [F_spec_l01Name_l0]
  rw [e]
  simp only [reduceCtorEq, decide_false, bif_f, ix_zero, Option.bind_some, l01Small_eq, ← decide_not, bif_dec, nameOk, lowHead]
  split
  ·rename_i h; rw [decide_eq_false (by omega)]; rfl
  ·rename_i h
   rw [decide_eq_true (by omega)]
   split
   ·rename_i h2; rw [decide_eq_false (by omega)]; rfl
   ·rename_i h2; rw [decide_eq_true (by omega)]; rfl
theorem onlyNameBytes_eq (s : List UInt8) (hs : s.length ≤ 9223372036854775807) : F_impl_onlyNameBytes s = some (s.all nb) := by
 unfold F_impl_onlyNameBytes
 refine loop_all nb hs ?_ ?_
 ·intro i k a ha hi
  simp only [F_impl_onlyNameBytes_l0, int_lt (get_lt ha), ix_get ha, Option.bind_some, bif_t, w64_succ hi, bif_dec, nb]
  repeat' split
  all_goals first | rfl | (exfalso; omega)
 ·intro k; simp [F_impl_onlyNameBytes_l0]
theorem IsName_eq (s : List UInt8) (hs : s.length ≤ 9223372036854775807) : F_impl_IsName s = some (nameOk s) := by
 unfold F_impl_IsName
 rw [onlyNameBytes_eq s hs]
 cases s with
 | nil => rfl
 | cons b t =>
  simp only [ix_zero, Option.bind_some, bif_dec, nameOk, lowHead]
  split
  ·rename_i h; simp at h; omega
  ·split
   ·rename_i h; rw [decide_eq_false (by omega)]; rfl
   ·rename_i h
    rw [decide_eq_true (by omega)]
    split
    ·rename_i h2; rw [decide_eq_false (by omega)]; rfl
    ·split
     ·rename_i h2; rw [decide_eq_false (by omega)]; rfl
     ·rw [decide_eq_true (by omega)]; rfl
end Go.Ab
set_option linter.unusedVariables false
set_option linter.unusedSimpArgs false
namespace Go.Ab
open Go.RowKit
section
variable {α : Type}
def adj (one : α → Bool) (bef : α → α → Bool) : Option α → List α → Bool
 | _, [] => true
 | none, x :: t => one x && adj one bef (some x) t
 | some q, x :: t => one x && (bef q x && adj one bef (some x) t)
def prevA (A : List α) : Nat → Option α
 | 0 => none
 | n + 1 => A[n]?
theorem loop_adj {A : List α} {one : α → Bool} {bef : α → α → Bool} {fin : Bool} {body : (Int → Option Bool) → Int → Option Bool} (hA : A.length ≤ 9223372036854775807)
  (first : ∀ k a, A[0]? = some a → body k 0 = bif one a then k 1 else some false)
  (more : ∀ (i : Nat) k q a, A[i]? = some q → A[i + 1]? = some a → i + 1 < 9223372036854775807 → body k ((i + 1 : Nat) : Int) = bif one a then (bif bef q a then k ((i + 2 : Nat) : Int) else some false) else some false)
  (done : ∀ k, body k (A.length : Int) = some fin) : loop body 0 = some (adj one bef none A && fin) := by
 have := loop_at (L := A) (body := body) (fun i => adj one bef (prevA A i) (A.drop i) && fin) hA ?_ ?_
 ·exact this
 ·intro i k a ha hi hk
  rw [drop_cons ha]
  cases i with
  | zero =>
   have h1 := first k a ha
   have hp : prevA A 1 = some a := ha
   rw [hp] at hk
   show body k 0 = _
   rw [h1]
   simp only [prevA, adj]
   cases one a
   ·rfl
   ·exact hk
  | succ n =>
   obtain ⟨q, hq⟩ := get_some (L := A) (n := n) (by have := get_lt ha; omega)
   have h1 := more n k q a hq ha hi
   have hp : prevA A (n + 1 + 1) = some a := ha
   rw [hp] at hk
   rw [h1]
   simp only [prevA, hq, adj]
   cases one a
   ·rfl
   ·cases bef q a
    ·rfl
    ·exact hk
 ·intro k
  rw [done, List.drop_length]
  cases prevA A A.length <;> simp [adj]
end
end Go.Ab
set_option linter.unusedVariables false
set_option linter.unusedSimpArgs false
namespace Go.Ab
open Go.RowKit
theorem l00In_eq (a b c : Int) : F_spec_l00In a b c = some (decide (b ≤ a ∧ a ≤ c)) := by
 unfold F_spec_l00In
 by_cases h : b ≤ a <;> simp [h]
theorem within_eq (a b c : Int) : F_impl_within a b c = some (decide (b ≤ a ∧ a ≤ c)) := by
 unfold F_impl_within
 by_cases h : b ≤ a <;> simp [h]
end Go.Ab
set_option linter.unusedVariables false
set_option linter.unusedSimpArgs false
namespace Go.Ab
open Go.RowKit
theorem half_eq (i j : Nat) (h : i + j ≤ 9223372036854775807) : w64 (Int.fdiv (IntKind.wrap .u64 (w64 ((i : Int) + (j : Int)))) (2 ^ (min ((1 : Int)).toNat (IntKind.bits .u64)))) = (((i + j) / 2 : Nat) : Int) := by
 have e1 : w64 ((i : Int) + (j : Int)) = ((i + j : Nat) : Int) := by rw [w64_id (by omega)]; omega
 have e2 : IntKind.wrap .u64 ((i + j : Nat) : Int) = ((i + j : Nat) : Int) := by
  simp only [IntKind.wrap, IntKind.signed, IntKind.bits]
  have : (((i + j : Nat) : Int) % 2 ^ 64) = ((i + j : Nat) : Int) := Int.emod_eq_of_lt (by omega) (by omega)
  simp [this]
  try omega
 rw [e1, e2]
 have e3 : (2 : Int) ^ (min ((1 : Int)).toNat (IntKind.bits .u64)) = 2 := rfl
 have e4 : Int.fdiv ((i + j : Nat) : Int) 2 = (((i + j) / 2 : Nat) : Int) := by
  rw [Int.fdiv_eq_ediv_of_nonneg _ (by omega)]
  omega
 rw [e3, e4, w64_id (by omega)]
def cut {α : Type} (c : α → Int) (A : List α) : Nat := (A.takeWhile fun x => decide (c x < 0)).length
theorem cut_le {α : Type} (c : α → Int) (A : List α) : cut c A ≤ A.length := by
 unfold cut
 exact (List.takeWhile_prefix _).length_le
theorem cut_lt {α : Type} {c : α → Int} : ∀ {A : List α} {k : Nat} {x : α}, A[k]? = some x → k < cut c A → c x < 0
 | [], k, x, h, _ => by simp at h
 | a :: A, k, x, h, hk => by
  unfold cut at hk
  rw [List.takeWhile_cons] at hk
  split at hk
  ·rename_i ha
   cases k with
   | zero => simp at h; subst h; exact of_decide_eq_true ha
   | succ k => simp at h hk; exact cut_lt (A := A) h hk
  ·simp at hk
theorem cut_at {α : Type} {c : α → Int} : ∀ {A : List α} {x : α}, A[cut c A]? = some x → ¬ c x < 0
 | [], x, h => by simp at h
 | a :: A, x, h => by
  unfold cut at h
  rw [List.takeWhile_cons] at h
  split at h
  ·simp at h; exact cut_at (A := A) h
  ·rename_i ha
   simp at h; subst h
   intro h2; exact ha (decide_eq_true h2)
theorem loop_search {α R : Type} {A : List α} {c : α → Int} {body : (Int × Int → Option R) → Int × Int → Option R} (fin : Nat → R) (hA : A.length ≤ 4611686018427387903)
  (mono : ∀ (i j : Nat) x y, i < j → A[i]? = some x → A[j]? = some y → c y < 0 → c x < 0)
  (step : ∀ (i j : Nat) k x, i < j → j ≤ A.length → A[(i + j) / 2]? = some x → body k ((i : Int), (j : Int)) = bif decide (c x < 0) then k ((((i + j) / 2 + 1 : Nat) : Int), (j : Int)) else k ((i : Int), (((i + j) / 2 : Nat) : Int)))
  (done : ∀ (i : Nat) k, i ≤ A.length → body k ((i : Int), (i : Int)) = some (fin i)) : loop body (0, (A.length : Int)) = some (fin (cut c A)) := by
 have below : ∀ (i : Nat) x, A[i]? = some x → c x < 0 → i < cut c A := by
  intro i x hx hc
  rcases Nat.lt_or_ge i (cut c A) with h | h
  ·exact h
  ·exfalso
   obtain ⟨y, hy⟩ := get_some (L := A) (n := cut c A) (by have := get_lt hx; omega)
   have hn := cut_at hy
   rcases Nat.lt_or_ge (cut c A) i with h2 | h2
   ·exact hn (mono _ _ y x h2 hy hx hc)
   ·have : i = cut c A := by omega
    subst this
    rw [hx] at hy; cases hy
    exact hn hc
 obtain ⟨r, e, hr⟩ := loop_mu (body := body) (s0 := ((0 : Int), (A.length : Int))) (Q := fun r => r = fin (cut c A))
  (fun s => ∃ i j : Nat, s = ((i : Int), (j : Int)) ∧ i ≤ cut c A ∧ cut c A ≤ j ∧ j ≤ A.length) (fun s => (s.2 - s.1).toNat) ⟨0, A.length, rfl, Nat.zero_le _, cut_le c A, Nat.le_refl _⟩ (lt_lim (by simp; omega))
  (by
   rintro _ k ⟨i, j, rfl, h1, h2, h3⟩ hk
   by_cases hij : i < j
   ·obtain ⟨x, hx⟩ := get_some (L := A) (n := (i + j) / 2) (by omega)
    rw [step i j k x hij h3 hx, bif_dec]
    split
    ·rename_i hc
     have := below _ x hx hc
     exact hk _ ⟨(i + j) / 2 + 1, j, rfl, by omega, h2, h3⟩ (by simp; omega)
    ·rename_i hc
     refine hk _ ⟨i, (i + j) / 2, rfl, h1, ?_, by omega⟩ (by simp; omega)
     rcases Nat.lt_or_ge ((i + j) / 2) (cut c A) with h | h
     ·exact absurd (cut_lt hx h) hc
     ·exact h
   ·have : i = j := by omega
    subst this
    have : i = cut c A := by omega
    refine ⟨_, done i k h3, by rw [this]⟩)
 rw [e, hr]
end Go.Ab
set_option linter.unusedVariables false
set_option linter.unusedSimpArgs false
namespace Go.Ab
open Go.RowKit
def srtS (L : List Str) : Prop := List.Pairwise (fun x y : Str => x < y) L
theorem lt_ne {x y : Str} (h : x < y) : x ≠ y := fun e => by subst e; exact List.lt_irrefl _ h
theorem lt_of_le {x y : Str} (h : ¬ y < x) (hn : y ≠ x) : x < y := by
 rcases List.le_total x y with h1 | h1
 ·refine Classical.byContradiction fun h2 => hn ?_
  exact List.le_antisymm (List.not_lt.1 h2) (List.not_lt.1 h)
 ·refine Classical.byContradiction fun h2 => hn ?_
  exact List.le_antisymm h1 (List.not_lt.1 h)
theorem srt_snoc {L : List Str} {x : Str} (h : srtS L) (hx : ∀ y ∈ L, y < x) : srtS (L ++ [x]) := by
 unfold srtS
 rw [List.pairwise_append]
 exact ⟨h, by simp, fun a ha b hb => by rw [List.mem_singleton.1 hb]; exact hx a ha⟩
theorem less_eq (x y : Str) : Op.bytesLess x y = decide (x < y) := Go.Proofs.bytesLess_eq x y
theorem arr_at {S : List Str} {m : Nat} {a : Str} (h : S[m]? = some a) : S.toArray[m]! = a := by
 have hl := get_lt h
 rw [List.getElem?_eq_getElem hl] at h
 cases h
 simp [hl]
theorem compact_srt {S : List Str} (hS : List.Pairwise (fun x y : Str => x ≤ y) S) : ∀ m, m ≤ S.length → srtS (Go.Lib.compactUpTo S.toArray m) ∧ (∀ y, y ∈ Go.Lib.compactUpTo S.toArray m ↔ y ∈ S.take m)
 | 0, _ => ⟨List.Pairwise.nil, fun y => by simp [Go.Lib.compactUpTo]⟩
 | m + 1, hm => by
  obtain ⟨h1, h2⟩ := compact_srt hS m (by omega)
  obtain ⟨a, ha⟩ := get_some (L := S) (n := m) (by omega)
  rw [Go.Lib.compactUpTo_succ, arr_at ha]
  have hmem : ∀ y, y ∈ S.take (m + 1) ↔ y ∈ S.take m ∨ y = a := fun y => by rw [take_succ ha, List.mem_append, List.mem_singleton]
  have hle : ∀ (i j : Nat) x y, i < j → S[i]? = some x → S[j]? = some y → x ≤ y := by
   intro i j x y hij hx hy
   have h3 := get_lt hx
   have h4 := get_lt hy
   have := List.pairwise_iff_getElem.1 hS i j h3 h4 hij
   rw [List.getElem?_eq_getElem h3] at hx
   rw [List.getElem?_eq_getElem h4] at hy
   cases hx; cases hy; exact this
  by_cases hk : Go.Lib.keeps S.toArray m = true
  ·rw [if_pos hk]
   refine ⟨srt_snoc h1 ?_, fun y => by rw [List.mem_append, List.mem_singleton, h2, hmem]⟩
   intro y hy
   rw [h2] at hy
   obtain ⟨j, hj⟩ := List.mem_iff_getElem?.1 hy
   rw [List.getElem?_take] at hj
   split at hj
   ·rename_i hjm
    have h0 : m ≠ 0 := by omega
    obtain ⟨b, hb⟩ := get_some (L := S) (n := m - 1) (by omega)
    have hne : a ≠ b := by
     have := of_decide_eq_true hk
     rcases this with h | h
     ·exact absurd h h0
     ·rw [arr_at ha, arr_at hb] at h; exact h
    have hba : b < a := lt_of_le (List.not_lt.2 (hle (m - 1) m b a (by omega) hb ha)) hne
    by_cases e : j = m - 1
    ·subst e; rw [hb] at hj; cases hj; exact hba
    ·have hyb := hle j (m - 1) y b (by omega) hj hb
     by_cases e2 : y = b
     ·rw [e2]; exact hba
     ·exact List.lt_trans (lt_of_le (List.not_lt.2 hyb) (fun e => e2 e.symm)) hba
   ·cases hj
  ·rw [if_neg hk, List.append_nil]
   refine ⟨h1, fun y => ?_⟩
   rw [h2, hmem]
   constructor
   ·exact .inl
   ·rintro (h | h)
    ·exact h
    ·have h0 : m ≠ 0 := fun e => hk (by simp [Go.Lib.keeps, e])
     obtain ⟨b, hb⟩ := get_some (L := S) (n := m - 1) (by omega)
     have : a = b := by
      refine Classical.byContradiction fun hne => hk ?_
      refine decide_eq_true (.inr ?_)
      rw [arr_at ha, arr_at hb]; exact hne
     rw [h, this]
     refine List.mem_iff_getElem?.2 ⟨m - 1, ?_⟩
     rw [List.getElem?_take, if_pos (by omega)]; exact hb
theorem sc_ex {β : Type} (L : List Str) (hl : L.length ≤ 1000000) (F : List Str → Option β) : ∃ R, ((F_sortS L).bind fun v => need (v.length = L.length) ((F_compactS v).bind F)) = F R ∧ srtS R ∧ (∀ y, y ∈ R ↔ y ∈ L) := by
 unfold F_sortS
 rw [need_true (by omega), Option.bind_some]
 generalize hS : L.mergeSort _ = S
 have hp : S.Perm L := hS ▸ List.mergeSort_perm _ _
 have hpw : List.Pairwise (fun x y : Str => x ≤ y) S := by
  rw [← hS]
  refine (List.pairwise_mergeSort ?_ ?_ L).imp fun h => of_decide_eq_true h
  ·intro a b c h1 h2
   exact decide_eq_true (List.le_trans (of_decide_eq_true h1) (of_decide_eq_true h2))
  ·intro a b
   rcases List.le_total a b with h | h
   ·simp [h]
   ·simp [h]
 have hlen := hp.length_eq
 obtain ⟨h1, h2⟩ := compact_srt hpw _ (Nat.le_refl _)
 refine ⟨_, ?_, h1, fun y => ?_⟩
 ·unfold F_compactS
  rw [need_true hlen, need_true (by omega), Option.bind_some]
 ·rw [h2, take_all (Nat.le_refl _)]
  exact hp.mem_iff
theorem loop_coll {α β R : Type} {A : List α} (g : α → Bool) (f : α → β) {r : R} {body : (Int × List β → Option R) → Int × List β → Option R} (hA : A.length ≤ 9223372036854775807)
  (more : ∀ (i : Nat) (B : List β) k a, A[i]? = some a → i < 9223372036854775807 → B.length ≤ i → i < A.length → body k ((i : Int), B) = bif g a then k (((i + 1 : Nat) : Int), B ++ [f a]) else k (((i + 1 : Nat) : Int), B))
  (done : ∀ k, body k ((A.length : Int), (A.filter g).map f) = some r) : loop body (0, []) = some r := by
 obtain ⟨q, e, hq⟩ := loop_ex (body := body) (s0 := ((0 : Int), ([] : List β))) (Q := fun q => q = r) (L := A)
  (fun i s => s.1 = (i : Int) ∧ s.2 = ((A.take i).filter g).map f) hA ⟨rfl, rfl⟩
  (by
   rintro i ⟨j, B⟩ k a ha hi ⟨rfl, hB⟩ hk
   dsimp only at hB
   have hl : B.length ≤ i := by
    rw [hB, List.length_map]
    have h1 : ((A.take i).filter g).length ≤ (A.take i).length := List.length_filter_le _ _
    have h2 : (A.take i).length ≤ i := by rw [List.length_take]; omega
    omega
   have hn : (A.take (i + 1)).filter g = (A.take i).filter g ++ (if g a = true then [a] else []) := by
    rw [take_succ ha, List.filter_append]
    congr 1
    cases hg : g a <;> simp [hg]
   rw [more i B k a ha hi hl (get_lt ha)]
   cases hg : g a
   ·simp only [hg, Bool.false_eq_true, if_false, List.append_nil] at hn
    exact hk _ ⟨rfl, by rw [hB, hn]⟩
   ·simp only [hg, if_true] at hn
    exact hk _ ⟨rfl, by rw [hB, hn]; simp⟩)
  (by
   rintro ⟨j, B⟩ k ⟨rfl, hB⟩
   dsimp only at hB
   rw [take_all (Nat.le_refl _)] at hB
   subst hB
   exact ⟨_, done k, rfl⟩)
 rw [e, hq]
end Go.Ab
set_option linter.unusedVariables false
set_option linter.unusedSimpArgs false
namespace Go.Ab
open Go.RowKit
theorem nif {R : Type} {b : Bool} {x y : R} : (bif !b then x else y) = bif b then y else x := by cases b <;> rfl
theorem int_pos' (n : Nat) : decide ((0 : Int) < ((n + 1 : Nat) : Int)) = true := decide_eq_true (by omega)
def cmpI (a b : Int) : Int := if a < b then -1 else if b < a then 1 else 0
def cmpT (a b : Str) : Int := if a < b then -1 else if a = b then 0 else 1
theorem cmpI_eq (a b : Int) : F_cmp_Compare_int64 a b = some (cmpI a b) := by
 unfold F_cmp_Compare_int64 F_cmp_isNaN_int64 cmpI
 simp only [ne_eq, not_true_eq_false, decide_false, Option.bind_some, bif_f, bif_dec]
 split
 ·rfl
 ·split <;> rfl
theorem cmpT_eq (a b : Str) : F_cmp_Compare_string a b = some (cmpT a b) := by
 unfold F_cmp_Compare_string F_cmp_isNaN_string cmpT
 simp only [ne_eq, not_true_eq_false, decide_false, Option.bind_some, bif_f, less_eq]
 by_cases h : a < b
 ·simp [h]
 ·by_cases h2 : a = b
  ·subst h2; simp [h]
  ·simp [h, h2]
def or3 (x y z : Int) : Int := if x ≠ 0 then x else if y ≠ 0 then y else z
theorem Or3_eq (x y z : Int) : F_cmp_Or_int [x, y, z] = some (or3 x y z) := by
 unfold F_cmp_Or_int
 have := loop_sfx (body := F_cmp_Or_int_l0 [x, y, z]) (L := [x, y, z]) (fun t => (t.find? (fun z => decide (z ≠ 0))).getD 0) (by simp) ?_ ?_
 ·rw [this]
  unfold or3
  by_cases h : x = 0 <;> by_cases h2 : y = 0 <;> by_cases h3 : z = 0 <;> simp [List.find?, h, h2, h3]
 ·intro i k a t ha hi hk
  simp only [F_cmp_Or_int_l0, int_lt (get_lt ha), bif_t, ix_get ha, Option.bind_some, w64_succ hi, bif_dec, hk]
  by_cases h : a = 0 <;> simp [List.find?, h]
 ·intro k
  simp only [F_cmp_Or_int_l0, int_lt_self, bif_f]
  rfl
def turnOk (t : TTurn) : Bool := nameOk t.1 && (decide (0 ≤ t.2.1 ∧ t.2.1 ≤ 10000) && decide (1 ≤ t.2.2 ∧ t.2.2 ≤ 10000))
def turnBef (a b : TTurn) : Bool := if a.2.1 ≠ b.2.1 then decide (a.2.1 < b.2.1) else if a.1 ≠ b.1 then decide (a.1 < b.1) else decide (a.2.2 < b.2.2)
theorem l23One_eq {t : TTurn} (o : OkTurn t) : F_spec_l23One t = some (turnOk t) := by
 unfold F_spec_l23One turnOk
 rw [l01Name_eq _ o.1, l00In_eq, l00In_eq]
 simp only [Option.bind_some]
 cases nameOk t.1 <;> cases decide (0 ≤ t.2.1 ∧ t.2.1 ≤ 10000) <;> rfl
theorem Tvalid_eq {t : TTurn} (o : OkTurn t) : F_impl_Turn_valid t = some (turnOk t) := by
 unfold F_impl_Turn_valid turnOk
 rw [IsName_eq _ o.1, within_eq, within_eq]
 simp only [Option.bind_some]
 cases nameOk t.1 <;> cases decide (0 ≤ t.2.1 ∧ t.2.1 ≤ 10000) <;> rfl
theorem l23Before_eq (a b : TTurn) : F_spec_l23Before a b = some (turnBef a b) := by
 unfold F_spec_l23Before turnBef
 simp only [bif_dec, less_eq]
 split
 ·rfl
 ·split <;> rfl
theorem compareT_bef (a b : TTurn) : ∃ c, F_impl_compareTurns a b = some c ∧ decide (0 ≤ c) = !turnBef a b := by
 refine ⟨or3 (cmpI a.2.1 b.2.1) (cmpT a.1 b.1) (cmpI a.2.2 b.2.2), ?_, ?_⟩
 ·unfold F_impl_compareTurns
  rw [cmpI_eq, cmpT_eq, cmpI_eq]
  simp only [Option.bind_some, Or3_eq]
 ·unfold or3 turnBef cmpI cmpT
  by_cases h1 : a.2.1 < b.2.1
  ·have : a.2.1 ≠ b.2.1 := by omega
   simp [h1, this]
  ·by_cases h2 : b.2.1 < a.2.1
   ·have : a.2.1 ≠ b.2.1 := by omega
    simp [h1, h2, this]
   ·have e : a.2.1 = b.2.1 := by omega
    simp only [e, Int.lt_irrefl, if_false, ne_eq, not_true_eq_false]
    by_cases h3 : a.1 = b.1
    ·have e3 : ¬ b.1 < b.1 := List.lt_irrefl _
     simp only [h3, e3, if_false, if_true, not_true_eq_false]
     by_cases h4 : a.2.2 < b.2.2
     ·simp [h4]
     ·by_cases h5 : b.2.2 < a.2.2 <;> simp [h4, h5]
    ·by_cases h4 : a.1 < b.1 <;> simp [h3, h4]
def turnsOk (L : List TTurn) : Bool := adj turnOk turnBef none L && decide ((L.length : Int) ≤ 24)
theorem l23Ok_eq {L : List TTurn} (oL : (OkL OkTurn) L) : F_spec_l23Ok L = some (turnsOk L) := by
 unfold F_spec_l23Ok turnsOk
 refine loop_adj oL.1 ?_ ?_ ?_
 ·intro k a ha
  have h0 : (0 : Int) = ((0 : Nat) : Int) := rfl
  rw [h0]
  simp only [F_spec_l23Ok_l0, int_lt (get_lt ha), bif_t, ix_get ha, Option.bind_some, l23One_eq (oL.2 a (get_mem ha)), nif]
  rfl
 ·intro i k q a hq ha hi
  simp only [F_spec_l23Ok_l0, int_lt (get_lt ha), bif_t, ix_get ha, Option.bind_some, l23One_eq (oL.2 a (get_mem ha)), nif, int_pos', w64_pred (show i < 9223372036854775807 by omega), w64_succ hi, ix_get hq, l23Before_eq]
 ·intro k; simp only [F_spec_l23Ok_l0, int_lt_self, bif_f]
theorem ValidTurns_eq {L : List TTurn} (oL : (OkL OkTurn) L) : F_impl_ValidTurns L = some (turnsOk L) := by
 have e : loop (F_impl_ValidTurns_l0 L) 0 = some (adj turnOk turnBef none L && true) := by
  refine loop_adj oL.1 ?_ ?_ ?_
  ·intro k a ha
   have h0 : (0 : Int) = ((0 : Nat) : Int) := rfl
   rw [h0]
   simp only [F_impl_ValidTurns_l0, int_lt (get_lt ha), bif_t, ix_get ha, Option.bind_some, Tvalid_eq (oL.2 a (get_mem ha)), nif]
   rfl
  ·intro i k q a hq ha hi
   obtain ⟨c, e, hc⟩ := compareT_bef q a
   simp only [F_impl_ValidTurns_l0, int_lt (get_lt ha), bif_t, ix_get ha, Option.bind_some, Tvalid_eq (oL.2 a (get_mem ha)), nif, int_pos', w64_pred (show i < 9223372036854775807 by omega), w64_succ hi, ix_get hq, e, hc]
  ·intro k; simp only [F_impl_ValidTurns_l0, int_lt_self, bif_f]
 unfold F_impl_ValidTurns turnsOk
 rw [e]
 by_cases h : (24 : Int) < L.length
 ·rw [decide_eq_true h, bif_t, decide_eq_false (by omega), Bool.and_false]
 ·rw [decide_eq_false h, bif_f, decide_eq_true (by omega)]
theorem adj_of {α : Type} {one : α → Bool} {bef : α → α → Bool} : ∀ {A : List α} {p : Option α}, (∀ x ∈ A, one x = true) → A.Pairwise (fun x y => bef x y = true) → (∀ q, p = some q → ∀ x ∈ A, bef q x = true) → adj one bef p A = true
 | [], p, _, _, _ => by cases p <;> rfl
 | a :: A, p, h1, h2, h3 => by
  rw [List.pairwise_cons] at h2
  have ih := adj_of (A := A) (p := some a) (fun x hx => h1 x (by simp [hx])) h2.2 (fun q hq x hx => by cases hq; exact h2.1 x hx)
  have ha := h1 a (by simp)
  cases p with
  | none => simp [adj, ha, ih]
  | some q => simp [adj, ha, ih, h3 q rfl a (by simp)]
theorem tb_iff (a b : TTurn) : turnBef a b = true ↔ a.2.1 < b.2.1 ∨ (a.2.1 = b.2.1 ∧ (a.1 < b.1 ∨ (a.1 = b.1 ∧ a.2.2 < b.2.2))) := by
 unfold turnBef
 by_cases h1 : a.2.1 = b.2.1
 ·by_cases h2 : a.1 = b.1
  ·have e3 : ¬ b.1 < b.1 := List.lt_irrefl _
   simp [h1, h2, e3]
  ·simp [h1, h2]
 ·simp [h1]
theorem tb_trans {a b c : TTurn} (h : turnBef a b = true) (k : turnBef b c = true) : turnBef a c = true := by
 rw [tb_iff] at *
 rcases h with h | ⟨h1, h⟩
 ·exact .inl (by rcases k with k | ⟨k, _⟩ <;> omega)
 ·rcases k with k | ⟨k1, k⟩
  ·exact .inl (by omega)
  ·refine .inr ⟨by omega, ?_⟩
   rcases h with h | ⟨h2, h⟩
   ·rcases k with k | ⟨k2, _⟩
    ·exact .inl (List.lt_trans h k)
    ·exact .inl (k2 ▸ h)
   ·rcases k with k | ⟨k2, k⟩
    ·exact .inl (h2 ▸ k)
    ·exact .inr ⟨h2.trans k2, by omega⟩
theorem tb_tot {a b : TTurn} (h : ¬ turnBef a b = true) (hn : a ≠ b) : turnBef b a = true := by
 rw [tb_iff] at h ⊢
 by_cases h1 : a.2.1 = b.2.1
 ·by_cases h2 : a.1 = b.1
  ·refine .inr ⟨h1.symm, .inr ⟨h2.symm, ?_⟩⟩
   have h3 : a.2.2 ≠ b.2.2 := fun e => hn (Prod.ext h2 (Prod.ext h1 e))
   have : ¬ a.2.2 < b.2.2 := fun k => h (.inr ⟨h1, .inr ⟨h2, k⟩⟩)
   omega
  ·exact .inr ⟨h1.symm, .inl (lt_of_le (fun k => h (.inr ⟨h1, .inl k⟩)) h2)⟩
 ·refine .inl ?_
  have : ¬ a.2.1 < b.2.1 := fun k => h (.inl k)
  omega
theorem tb_start {a b : TTurn} (h : turnBef a b = true) : a.2.1 ≤ b.2.1 := by
 rw [tb_iff] at h
 rcases h with h | ⟨h, _⟩ <;> omega
def srtT (L : List TTurn) : Prop := L.Pairwise fun x y => turnBef x y = true
theorem srtT_at {L : List TTurn} (h : srtT L) {i j : Nat} {x y : TTurn} (hij : i < j) (hx : L[i]? = some x) (hy : L[j]? = some y) : turnBef x y = true := by
 unfold srtT at h
 rw [List.pairwise_iff_getElem] at h
 have h1 := get_lt hx
 have h2 := get_lt hy
 have := h i j h1 h2 hij
 rw [List.getElem?_eq_getElem h1] at hx
 rw [List.getElem?_eq_getElem h2] at hy
 cases hx; cases hy; exact this
theorem ins_srt {L : List TTurn} (hs : srtT L) {n : Nat} {t : TTurn} (h1 : ∀ k x, L[k]? = some x → k < n → turnBef x t = true) (h2 : ∀ k x, L[k]? = some x → n ≤ k → turnBef t x = true) : srtT (L.take n ++ t :: L.drop n) := by
 have k1 : ∀ x ∈ L.take n, turnBef x t = true := by
  intro x hx
  obtain ⟨k, hk⟩ := List.mem_iff_getElem?.1 hx
  rw [List.getElem?_take] at hk
  split at hk
  ·exact h1 k x hk (by assumption)
  ·cases hk
 have k2 : ∀ x ∈ L.drop n, turnBef t x = true := by
  intro x hx
  obtain ⟨k, hk⟩ := List.mem_iff_getElem?.1 hx
  rw [List.getElem?_drop] at hk
  exact h2 _ x hk (by omega)
 unfold srtT
 rw [List.pairwise_append]
 refine ⟨hs.sublist (List.take_sublist _ _), List.pairwise_cons.2 ⟨k2, hs.sublist (List.drop_sublist _ _)⟩, ?_⟩
 intro x hx y hy
 rcases List.mem_cons.1 hy with h | h
 ·rw [h]; exact k1 x hx
 ·exact tb_trans (k1 x hx) (k2 y h)
theorem ins_mem {L : List TTurn} {n : Nat} {t x : TTurn} : x ∈ L.take n ++ t :: L.drop n ↔ x = t ∨ x ∈ L := by
 rw [List.mem_append, List.mem_cons]
 constructor
 ·rintro (h | h | h)
  ·exact .inr (List.mem_of_mem_take h)
  ·exact .inl h
  ·exact .inr (List.mem_of_mem_drop h)
 ·rintro (h | h)
  ·exact .inr (.inl h)
  ·rw [← List.take_append_drop n L, List.mem_append] at h
   rcases h with h | h
   ·exact .inl h
   ·exact .inr (.inr h)
theorem turnsOk_of {L : List TTurn} (hs : srtT L) (ho : ∀ t ∈ L, turnOk t = true) (hl : L.length ≤ 24) : turnsOk L = true := by
 unfold turnsOk
 rw [adj_of ho hs (fun q hq => by cases hq), decide_eq_true (by omega)]
 rfl
def cov (time : Int) (t : TTurn) : Bool := decide (t.2.1 ≤ time ∧ time ≤ t.2.1 + t.2.2 - 1)
def cnt (p : Nat → Bool) : Nat → Nat
 | 0 => 0
 | n + 1 => cnt p n + (if p n = true then 1 else 0)
theorem cnt_mono {p q : Nat → Bool} (h : ∀ k, p k = true → q k = true) : ∀ n, cnt p n ≤ cnt q n
 | 0 => Nat.le_refl _
 | n + 1 => by
  have ih := cnt_mono h n
  simp only [cnt]
  by_cases hp : p n = true
  ·rw [if_pos hp, if_pos (h n hp)]; omega
  ·rw [if_neg hp]; omega
theorem cnt_or (p q : Nat → Bool) : ∀ n, cnt (fun k => p k || q k) n ≤ cnt p n + cnt q n
 | 0 => Nat.le_refl _
 | n + 1 => by
  have ih := cnt_or p q n
  simp only [cnt]
  by_cases hp : p n = true <;> by_cases hq : q n = true <;> simp [hp, hq] <;> omega
theorem cnt_none : ∀ n, cnt (fun _ => false) n = 0
 | 0 => rfl
 | n + 1 => by simp [cnt, cnt_none n]
theorem cnt_iv (a b : Nat) : ∀ n, cnt (fun k => decide (a ≤ k ∧ k < b)) n = min n b - min n a
 | 0 => by simp [cnt]
 | n + 1 => by
  have ih := cnt_iv a b n
  simp only [cnt, ih, decide_eq_true_eq]
  split <;> omega
def lenSum (p : List UInt8) : List TTurn → Int
 | [] => 0
 | t :: L => (if t.1 = p then t.2.2 else 0) + lenSum p L
theorem cnt_cov (p : List UInt8) (n : Nat) : ∀ L : List TTurn, (∀ t ∈ L, 0 ≤ t.2.1 ∧ 1 ≤ t.2.2) → (cnt (fun k => L.any fun t => decide (t.1 = p) && cov (k : Int) t) n : Int) ≤ lenSum p L
 | [], _ => by simp [lenSum, cnt_none]
 | t :: L, h => by
  have ih := cnt_cov p n L (fun x hx => h x (by simp [hx]))
  have ht := h t (by simp)
  have h1 := cnt_or (fun k => decide (t.1 = p) && cov (k : Int) t) (fun k => L.any fun t => decide (t.1 = p) && cov (k : Int) t) n
  have h2 : (cnt (fun k => decide (t.1 = p) && cov (k : Int) t) n : Int) ≤ if t.1 = p then t.2.2 else 0 := by
   by_cases hp : t.1 = p
   ·rw [if_pos hp]
    have := cnt_mono (p := fun k => decide (t.1 = p) && cov (k : Int) t) (q := fun k => decide (t.2.1.toNat ≤ k ∧ k < (t.2.1 + t.2.2).toNat)) (by
     intro k hk
     simp only [Bool.and_eq_true, cov, decide_eq_true_eq] at hk ⊢
     omega) n
    rw [cnt_iv] at this
    omega
   ·rw [if_neg hp]
    have := cnt_mono (p := fun k => decide (t.1 = p) && cov (k : Int) t) (q := fun _ => false) (by
     intro k hk
     simp [hp] at hk) n
    rw [cnt_none] at this
    omega
  have e : (cnt (fun k => (t :: L).any fun t => decide (t.1 = p) && cov (k : Int) t) n) = cnt (fun k => (decide (t.1 = p) && cov (k : Int) t) || (L.any fun t => decide (t.1 = p) && cov (k : Int) t)) n := by
   congr 1
  rw [e]
  simp only [lenSum]
  omega
end Go.Ab
set_option linter.unusedVariables false
set_option linter.unusedSimpArgs false
namespace Go.Ab
open Go.RowKit
def Src (N : Int) (s : TL00Src) : Prop := (∀ b ∈ s.1, 0 ≤ b ∧ b ≤ 255) ∧ 0 ≤ s.2.1 ∧ s.2.1 ≤ N
theorem Src.up {N M : Int} {s : TL00Src} (h : Src N s) (hm : N ≤ M) : Src M s := ⟨h.1, h.2.1, Int.le_trans h.2.2 hm⟩
theorem and255 (x : Int) : 0 ≤ bitAnd .u64 x 255 ∧ bitAnd .u64 x 255 ≤ 255 := by
 unfold bitAnd
 have h : (BitVec.ofInt (IntKind.bits .u64) x &&& BitVec.ofInt (IntKind.bits .u64) 255).toNat ≤ 255 := by
  rw [BitVec.toNat_and]
  exact Nat.le_trans Nat.and_le_right (by decide)
 rw [IntWalk.u64_in _ (by omega)]
 omega
theorem w64_and (x : Int) : 0 ≤ w64 (bitAnd .u64 x 255) ∧ w64 (bitAnd .u64 x 255) ≤ 255 := by
 have := and255 x
 rw [w64_id (by omega)]
 exact this
theorem next_ok {N : Int} (hN : N ≤ 1000000) {s : TL00Src} (h : Src N s) : ∃ s' x, F_spec_l00Src_next s = some (s', x) ∧ 0 ≤ x ∧ x ≤ 255 ∧ Src (N + 1) s' := by
 obtain ⟨c, a, z⟩ := s
 obtain ⟨h1, h2, h3⟩ := h
 dsimp only at h1 h2 h3
 have key : ∀ b : Int, 0 ≤ b → b ≤ 255 → ∃ s' x, F_spec_l00Src_next_j0 (c, a, z) b = some (s', x) ∧ 0 ≤ x ∧ x ≤ 255 ∧ Src (N + 1) s' := by
  intro b hb1 hb2
  unfold F_spec_l00Src_next_j0
  rw [bif_dec, w64_id (x := a + 1) (by omega)]
  split
  ·exact ⟨_, _, rfl, hb1, hb2, h1, by dsimp only; omega, by dsimp only; omega⟩
  ·rw [need_true (by decide)]
   exact ⟨_, _, rfl, (w64_and _).1, (w64_and _).2, h1, by dsimp only; omega, by dsimp only; omega⟩
 unfold F_spec_l00Src_next
 rw [bif_dec]
 split
 ·rename_i hlt
  dsimp only at hlt
  obtain ⟨b, hb⟩ := get_some (L := c) (n := a.toNat) (by omega)
  have hix : ix c a = some b := by
   have := ix_get hb
   rw [Int.toNat_of_nonneg h2] at this
   exact this
  dsimp only
  rw [hix, Option.bind_some]
  have := h1 b (get_mem hb)
  rw [w64_id (by omega)]
  exact key b this.1 this.2
 ·exact key 0 (by omega) (by omega)
theorem pick_ok {N n : Int} (hN : N ≤ 900000) (hn : 1 ≤ n ∧ n ≤ 200) {s : TL00Src} (h : Src N s) : ∃ s' x, F_spec_l00Src_pick s n = some (s', x) ∧ 0 ≤ x ∧ x < n ∧ Src (N + 1) s' := by
 unfold F_spec_l00Src_pick
 rw [bif_dec]
 split
 ·exact ⟨_, _, rfl, by omega, by omega, h.up (by omega)⟩
 ·rename_i hn1
  obtain ⟨s', x, e, hx1, hx2, hs⟩ := next_ok (by omega) h
  rw [e, Option.bind_some, bif_dec, if_neg (by omega)]
  unfold F_spec_l00Src_pick_j0
  rw [need_true (by omega)]
  exact ⟨_, _, rfl, Int.tmod_nonneg _ hx1, Int.tmod_lt_of_pos _ (by omega), hs⟩
theorem ix_in {α : Type} {L : List α} {x : Int} (h0 : 0 ≤ x) (h1 : x < L.length) : ∃ a, ix L x = some a ∧ a ∈ L := by
 obtain ⟨a, ha⟩ := get_some (L := L) (n := x.toNat) (by omega)
 refine ⟨a, ?_, get_mem ha⟩
 have := ix_get ha
 rw [Int.toNat_of_nonneg h0] at this
 exact this
theorem text_ok {N : Int} (hN : N ≤ 900000) {L : List (List UInt8)} (hL : 1 ≤ L.length ∧ L.length ≤ 200) {s : TL00Src} (h : Src N s) : ∃ s' t, F_spec_l00Src_text s L = some (s', t) ∧ t ∈ L ∧ Src (N + 1) s' := by
 unfold F_spec_l00Src_text
 obtain ⟨s', x, e, hx1, hx2, hs⟩ := pick_ok (n := (L.length : Int)) hN (by omega) h
 obtain ⟨t, ht, hm⟩ := ix_in hx1 hx2
 rw [e, Option.bind_some]
 dsimp only
 rw [ht, Option.bind_some]
 exact ⟨_, _, rfl, hm, hs⟩
theorem room_small {n b : Nat} (h : n ≤ 1000000) (hb : b ≤ 1000) : room n b := by
 refine ⟨by omega, ?_⟩
 have := Nat.mul_le_mul h hb
 omega
end Go.Ab
set_option linter.unusedVariables false
set_option linter.unusedSimpArgs false
namespace Go.Ab
open Go.RowKit
def plys : List (List UInt8) := [[100, 114, 111, 110, 101], [100, 114, 117, 109], [102, 108, 117, 116, 101]]
structure TW (n : Nat) (L : List TTurn) : Prop where
 srt : srtT L
 len : L.length ≤ n
 ok : ∀ t ∈ L, t.1 ∈ plys ∧ (0 ≤ t.2.1 ∧ t.2.1 ≤ 200) ∧ (1 ≤ t.2.2 ∧ t.2.2 ≤ 100)
theorem plys_ok : ∀ p ∈ plys, nameOk p = true ∧ p.length ≤ 5 := by decide
theorem TW.tok {n : Nat} {L : List TTurn} (h : TW n L) : ∀ t ∈ L, turnOk t = true := by
 intro t ht
 obtain ⟨h1, h2, h3⟩ := h.ok t ht
 unfold turnOk
 rw [(plys_ok t.1 h1).1, decide_eq_true (by omega), decide_eq_true (by omega)]
 rfl
theorem TW.okl {n : Nat} {L : List TTurn} (h : TW n L) (hn : n ≤ 1000) : (OkL OkTurn) L := by
 refine ⟨by have := h.len; omega, fun t ht => ?_⟩
 obtain ⟨h1, h2, h3⟩ := h.ok t ht
 have := (plys_ok t.1 h1).2
 refine ⟨by unfold OkS; omega, by unfold OkI; omega, by unfold OkI; omega⟩
theorem TW.valid {n : Nat} {L : List TTurn} (h : TW n L) (hn : n ≤ 24) : turnsOk L = true := turnsOk_of h.srt h.tok (by have := h.len; omega)
theorem TW.up {n m : Nat} {L : List TTurn} (h : TW n L) (hm : n ≤ m) : TW m L := ⟨h.srt, Nat.le_trans h.len hm, h.ok⟩
theorem TW.nil : TW 0 [] := ⟨List.Pairwise.nil, by simp, by simp⟩
theorem TW.ins {n : Nat} {L : List TTurn} (h : TW n L) {t : TTurn} (ht : t.1 ∈ plys ∧ (0 ≤ t.2.1 ∧ t.2.1 ≤ 200) ∧ (1 ≤ t.2.2 ∧ t.2.2 ≤ 100)) {k : Nat} (hs : srtT (L.take k ++ t :: L.drop k)) : TW (n + 1) (L.take k ++ t :: L.drop k) := by
 refine ⟨hs, ?_, fun x hx => ?_⟩
 ·have := h.len
  rw [List.length_append, List.length_cons, List.length_take, List.length_drop]
  omega
 ·rcases ins_mem.1 hx with h1 | h1
  ·rw [h1]; exact ht
  ·exact h.ok x h1
end Go.Ab
set_option linter.unusedVariables false
set_option linter.unusedSimpArgs false
namespace Go.Ab
open Go.RowKit
theorem sub_take {α : Type} {L : List α} {m : Nat} : sub L 0 (m : Int) = L.take m := by simp [sub]
theorem sub_dropA {α : Type} {L : List α} {m : Nat} : sub L (m : Int) (L.length : Int) = L.drop m := by
 unfold sub
 rw [Int.toNat_natCast, Int.toNat_natCast, List.take_length]
theorem put_j0 {L : List TTurn} {t : TTurn} {m : Nat} (hm : m ≤ L.length) (hl : L.length ≤ 1000) : F_spec_l23Put_j0 L t (m : Int) = some (L.take m ++ t :: L.drop m) := by
 unfold F_spec_l23Put_j0
 have h1 : (L.take m).length ≤ 1000 := by rw [List.length_take]; omega
 have h2 : (L.drop m).length ≤ 1000 := by rw [List.length_drop]; omega
 rw [need_true (by omega), sub_take, need_true (room_small (by omega) (by omega)), need_true (room_small (by simp only [List.length_singleton]; omega) (by omega)), need_true (by omega), sub_dropA, need_true (room_small (by rw [List.length_append, List.length_singleton]; omega) (by omega))]
 simp
theorem put_ok {n : Nat} (hn : n ≤ 100) {L : List TTurn} (h : TW n L) {t : TTurn} (ht : t.1 ∈ plys ∧ (0 ≤ t.2.1 ∧ t.2.1 ≤ 200) ∧ (1 ≤ t.2.2 ∧ t.2.2 ≤ 100)) (hm : t ∉ L) : ∃ R, F_spec_l23Put L t = some R ∧ (TW (n + 1) R ∧ ∀ x ∈ R, x = t ∨ x ∈ L) := by
 have hl := h.len
 unfold F_spec_l23Put
 refine loop_mu (fun s => ∃ m : Nat, s = (m : Int) ∧ m ≤ L.length ∧ ∀ k x, L[k]? = some x → m ≤ k → turnBef t x = true) (fun s => s.toNat) ⟨L.length, rfl, Nat.le_refl _, fun k x hx hk => by have := get_lt hx; omega⟩ (lt_lim (by omega)) ?_
 rintro _ K ⟨m, rfl, hm1, hm2⟩ hK
 have fin : (∀ k x, L[k]? = some x → k < m → turnBef x t = true) → ∃ r, F_spec_l23Put_j0 L t (m : Int) = some r ∧ (TW (n + 1) r ∧ ∀ x ∈ r, x = t ∨ x ∈ L) := fun h1 => ⟨_, put_j0 hm1 (by omega), h.ins ht (ins_srt h.srt h1 hm2), fun x hx => ins_mem.1 hx⟩
 unfold F_spec_l23Put_l1
 rw [bif_dec]
 split
 ·rename_i h0
  obtain ⟨q, rfl⟩ : ∃ q, m = q + 1 := ⟨m - 1, by omega⟩
  obtain ⟨y, hy⟩ := get_some (L := L) (n := q) (by omega)
  rw [w64_pred (by omega), ix_get hy, Option.bind_some, l23Before_eq, Option.bind_some]
  cases hb : turnBef t y
  ·rw [bif_f]
   refine fin fun k x hx hk => ?_
   have hyt : turnBef y t = true := tb_tot (by rw [hb]; decide) (fun e => hm (by rw [e]; exact get_mem hy))
   by_cases e : k = q
   ·subst e; rw [hx] at hy; cases hy; exact hyt
   ·exact tb_trans (srtT_at h.srt (by omega) hx hy) hyt
  ·rw [bif_t]
   refine hK _ ⟨q, rfl, by omega, fun k x hx hk => ?_⟩ (by omega)
   by_cases e : k = q
   ·subst e; rw [hx] at hy; cases hy; exact hb
   ·exact hm2 k x hx (by omega)
 ·exact fin fun k x hx hk => by omega
theorem player_ok {N : Int} (hN : N ≤ 900000) {s : TL00Src} (h : Src N s) : ∃ s' t, F_spec_l23Player s = some (s', t) ∧ t ∈ plys ∧ Src (N + 1) s' := by
 unfold F_spec_l23Player
 obtain ⟨s', t, e, ht, hs⟩ := text_ok (L := plys) hN (by decide) h
 have e : F_spec_l00Src_text s ([[100, 114, 111, 110, 101], [100, 114, 117, 109], [102, 108, 117, 116, 101]] : List (List UInt8)) = some (s', t) := e
 rw [e, Option.bind_some]
 exact ⟨_, _, rfl, ht, hs⟩
theorem dup_loop {L : List TTurn} (hl : L.length ≤ 1000) {u : TL00Src × List UInt8} {v w : TL00Src × Int} {t : TTurn} {k : Int} {K : Int × (List Int) × Int × Int × (List TTurn) → Option (TL00Src × (List TTurn))} {Q : TL00Src × List TTurn → Prop}
  (e1 : u.2 = t.1) (e2 : w64 (4 * v.2) = t.2.1) (e3 : w64 (4 + w64 (4 * w.2)) = t.2.2)
  (h1 : t ∈ L → ∃ r, K (w64 (k - 1), w.1.1, w.1.2.1, w.1.2.2, L) = some r ∧ Q r) (h2 : t ∉ L → ∃ r, ((F_spec_l23Put L t).bind fun R => K (w64 (k - 1), w.1.1, w.1.2.1, w.1.2.2, R)) = some r ∧ Q r) :
  ∃ r, loop (F_spec_l23Draw_l3 u v w k L K) (false, 0) = some r ∧ Q r := by
 refine loop_ex (L := L) (fun i s => s.2 = (i : Int) ∧ (s.1 = true ↔ t ∈ L.take i)) (by omega) ⟨rfl, by simp⟩ ?_ ?_
 ·rintro i ⟨b, _⟩ K2 a ha hi ⟨rfl, h3⟩ hK
  dsimp only at h3
  simp only [F_spec_l23Draw_l3, int_lt (get_lt ha), bif_t, ix_get ha, Option.bind_some, e1, e2, e3, w64_succ hi]
  have e4 : t ∈ L.take (i + 1) ↔ t ∈ L.take i ∨ t = a := by rw [take_succ ha, List.mem_append, List.mem_singleton]
  cases b
  ·rw [bif_f]
   refine hK _ ⟨rfl, ?_⟩
   dsimp only
   rw [e4]
   have h3 : ¬ t ∈ L.take i := fun h => by have := h3.2 h; cases this
   simp only [h3, false_or, Bool.and_eq_true, decide_eq_true_eq, and_true]
   constructor
   ·rintro ⟨k1, k2, k3⟩; exact Prod.ext k1.symm (Prod.ext k2.symm k3.symm)
   ·rintro rfl; exact ⟨rfl, rfl, rfl⟩
  ·rw [bif_t]
   refine hK _ ⟨rfl, ?_⟩
   dsimp only
   rw [e4]
   exact ⟨fun _ => .inl (h3.1 rfl), fun _ => rfl⟩
 ·rintro ⟨b, _⟩ K2 ⟨rfl, h3⟩
  dsimp only at h3
  rw [take_all (Nat.le_refl _)] at h3
  simp only [F_spec_l23Draw_l3, int_lt_self, bif_f]
  cases b
  ·rw [Bool.not_false, bif_t, e1, e2, e3]
   exact h2 (fun h => by have := h3.2 h; cases this)
  ·rw [Bool.not_true, bif_f]
   exact h1 (h3.1 rfl)
theorem turns_ok {c : List Int} (hc : ∀ b ∈ c, 0 ≤ b ∧ b ≤ 255) : ∃ L, F_spec_R8Turns c = some L ∧ TW 6 L ∧ ∀ t ∈ L, t.2.1 ≤ 76 ∧ t.2.2 ≤ 20 := by
 unfold F_spec_R8Turns F_spec_l23Draw
 have h0 : Src 0 (c, 0, 0) := ⟨hc, Int.le_refl _, Int.le_refl _⟩
 obtain ⟨s1, x, e1, hx1, hx2, h1⟩ := pick_ok (n := 7) (by omega) (by omega) h0
 rw [e1, Option.bind_some]
 obtain ⟨r, hr, hq⟩ := loop_mu (body := F_spec_l23Draw_l2) (s0 := (x, s1.1, s1.2.1, s1.2.2, []))
  (Q := fun r : TL00Src × List TTurn => TW 6 r.2 ∧ ∀ t ∈ r.2, t.2.1 ≤ 76 ∧ t.2.2 ≤ 20)
  (fun s => (0 ≤ s.1 ∧ s.1 ≤ x) ∧ Src (1 + 3 * (x - s.1)) (s.2.1, s.2.2.1, s.2.2.2.1) ∧ TW (x - s.1).toNat s.2.2.2.2 ∧ ∀ t ∈ s.2.2.2.2, t.2.1 ≤ 76 ∧ t.2.2 ≤ 20) (fun s => s.1.toNat)
  ⟨⟨hx1, Int.le_refl _⟩, h1.up (by dsimp only; omega), TW.nil.up (Nat.zero_le _), by simp⟩ (lt_lim (by dsimp only; omega))
  (by
   rintro ⟨k, c, a, z, L⟩ K ⟨q1, q2, q3, q4⟩ hK
   dsimp only at q1 q2 q3 q4
   simp only [F_spec_l23Draw_l2]
   rw [bif_dec]
   split
   ·rename_i hk
    obtain ⟨s2, p, e2, hp, h2⟩ := player_ok (by omega) q2
    obtain ⟨s3, y, e3, hy1, hy2, h3⟩ := pick_ok (n := 20) (by omega) (by omega) h2
    obtain ⟨s4, v, e4, hv1, hv2, h4⟩ := pick_ok (n := 5) (by omega) (by omega) h3
    have hl := q3.len
    rw [e2, Option.bind_some]
    dsimp only
    rw [e3, Option.bind_some]
    dsimp only
    rw [e4, Option.bind_some]
    refine dup_loop (t := (p, 4 * y, 4 + 4 * v)) (by omega) rfl (w64_id (by dsimp only; omega)) (by dsimp only; rw [w64_id (x := 4 * v) (by omega), w64_id (by omega)]) (fun _ => ?_) (fun hm => ?_)
    ·dsimp only
     rw [w64_id (by omega)]
     exact hK _ ⟨⟨by dsimp only; omega, by dsimp only; omega⟩, h4.up (by dsimp only; omega), q3.up (by dsimp only; omega), q4⟩ (by dsimp only; omega)
    ·obtain ⟨R, e5, hR, hR2⟩ := put_ok (by omega) q3 (t := (p, 4 * y, 4 + 4 * v)) ⟨hp, ⟨by dsimp only; omega, by dsimp only; omega⟩, ⟨by dsimp only; omega, by dsimp only; omega⟩⟩ hm
     dsimp only
     rw [e5, Option.bind_some, w64_id (by omega)]
     refine hK _ ⟨⟨by dsimp only; omega, by dsimp only; omega⟩, h4.up (by dsimp only; omega), hR.up (by dsimp only; omega), fun t ht => ?_⟩ (by dsimp only; omega)
     rcases hR2 t ht with rfl | ht
     ·exact ⟨by dsimp only; omega, by dsimp only; omega⟩
     ·exact q4 t ht
   ·exact ⟨_, rfl, q3.up (by omega), q4⟩)
 refine ⟨r.2, ?_, hq.1, hq.2⟩
 rw [hr, Option.bind_some]
def okA (a : TAnswer) : Prop := a.1 ∈ plys ∧ a.2.1 ∈ plys ∧ (0 ≤ a.2.2 ∧ a.2.2 ≤ 8)
theorem answers_ok {c : List Int} (hc : ∀ b ∈ c, 0 ≤ b ∧ b ≤ 255) : ∃ A, F_spec_R8Answers c = some A ∧ A.length ≤ 2 ∧ ∀ a ∈ A, okA a := by
 unfold F_spec_R8Answers
 have h0 : Src 0 (c, 0, 0) := ⟨hc, Int.le_refl _, Int.le_refl _⟩
 obtain ⟨s1, x, e1, hx1, hx2, h1⟩ := pick_ok (n := 3) (by omega) (by omega) h0
 rw [e1, Option.bind_some]
 refine loop_mu (fun s => (0 ≤ s.1 ∧ s.1 ≤ x) ∧ Src (1 + 3 * (x - s.1)) (s.2.1, s.2.2.1, s.2.2.2.1) ∧ (s.2.2.2.2.length : Int) ≤ x - s.1 ∧ ∀ a ∈ s.2.2.2.2, okA a) (fun s => s.1.toNat)
  ⟨⟨hx1, Int.le_refl _⟩, h1.up (by dsimp only; omega), by dsimp only [List.length_nil]; omega, by simp⟩ (lt_lim (by dsimp only; omega)) ?_
 rintro ⟨k, c, a, z, L⟩ K ⟨q1, q2, q3, q4⟩ hK
 dsimp only at q1 q2 q3 q4
 simp only [F_spec_R8Answers_l0]
 rw [bif_dec]
 split
 ·rename_i hk
  obtain ⟨s2, p, e2, hp, h2⟩ := player_ok (by omega) q2
  obtain ⟨s3, q, e3, hq, h3⟩ := player_ok (by omega) h2
  obtain ⟨s4, v, e4, hv1, hv2, h4⟩ := pick_ok (n := 3) (by omega) (by omega) h3
  rw [e2, Option.bind_some]
  dsimp only
  rw [e3, Option.bind_some]
  dsimp only
  rw [e4, Option.bind_some]
  dsimp only
  rw [need_true (room_small (by simp only [List.length_singleton]; omega) (by omega)), w64_id (x := 4 * v) (by omega), w64_id (by omega)]
  refine hK _ ⟨⟨by dsimp only; omega, by dsimp only; omega⟩, h4.up (by dsimp only; omega), ?_, fun a ha => ?_⟩ (by dsimp only; omega)
  ·dsimp only
   rw [List.length_append, List.length_singleton]
   omega
  ·rcases List.mem_append.1 ha with ha | ha
   ·exact q4 a ha
   ·rw [List.mem_singleton.1 ha]
    exact ⟨hp, hq, by dsimp only; omega, by dsimp only; omega⟩
 ·exact ⟨_, rfl, by dsimp only at *; omega, q4⟩
end Go.Ab
set_option linter.unusedVariables false
set_option linter.unusedSimpArgs false
namespace Go.Ab
open Go.RowKit
theorem playersAt_ex {n : Nat} {L : List TTurn} (h : TW n L) (hn : n ≤ 1000) (time : Int) : ∃ R, F_impl_playersAt L time = some R ∧ srtS R ∧ ∀ y, y ∈ R ↔ ∃ t ∈ L, cov time t = true ∧ t.1 = y := by
 have hl := h.len
 obtain ⟨S, q1, q2, q3⟩ := sc_ex ((L.filter (cov time)).map (·.1)) (by rw [List.length_map]; exact Nat.le_trans (List.length_filter_le _ _) (by omega)) (some : List Str → Option (List Str))
 refine ⟨S, ?_, q2, fun y => ?_⟩
 ·unfold F_impl_playersAt
  refine loop_coll (A := L) (cov time) (·.1) (by omega) ?_ ?_
  ·intro i B k a ha hi hB hlt
   obtain ⟨_, o2, o3⟩ := h.ok a (get_mem ha)
   simp only [F_impl_playersAt_l0, int_lt (get_lt ha), bif_t, ix_get ha, Option.bind_some, F_impl_Turn_end, within_eq, w64_succ hi]
   rw [w64_id (x := a.2.1 + a.2.2) (by omega), w64_id (x := a.2.1 + a.2.2 - 1) (by omega), need_true (room_small (by simp only [List.length_singleton]; omega) (by omega))]
   rfl
  ·intro k
   simp only [F_impl_playersAt_l0, int_lt_self, bif_f]
   exact q1
 ·rw [q3, List.mem_map]
  constructor
  ·rintro ⟨t, ht, e⟩
   obtain ⟨h1, h2⟩ := List.mem_filter.1 ht
   exact ⟨t, h1, h2, e⟩
  ·rintro ⟨t, h1, h2, e⟩
   exact ⟨t, List.mem_filter.2 ⟨h1, h2⟩, e⟩
theorem PlayersAt_eq {n : Nat} {L : List TTurn} (h : TW n L) (hn : n ≤ 24) {time : Int} (ht : 0 ≤ time ∧ time ≤ 20000) {R : List Str} (hR : F_impl_playersAt L time = some R) : F_impl_PlayersAt L time = some (R, 0) := by
 unfold F_impl_PlayersAt
 rw [ValidTurns_eq (h.okl (by omega)), h.valid hn, Option.bind_some, Bool.not_true, bif_f, within_eq, Option.bind_some, decide_eq_true ht, Bool.not_true, bif_f, hR, Option.bind_some]
theorem idx_any {α : Type} {L : List α} {g : α → Bool} {body : (Int → Option Int) → Int → Option Int} (hl : L.length ≤ 9223372036854775807)
  (more : ∀ (i : Nat) k a, L[i]? = some a → i < 9223372036854775807 → body k (i : Int) = bif g a then some (i : Int) else k ((i + 1 : Nat) : Int)) (done : ∀ k, body k (L.length : Int) = some (-1)) :
  ∃ r, loop body 0 = some r ∧ decide ((0 : Int) ≤ r) = L.any g := by
 refine loop_ex (L := L) (fun i s => s = (i : Int) ∧ (L.take i).any g = false) hl ⟨rfl, by simp⟩ ?_ ?_
 ·rintro i _ K a ha hi ⟨rfl, h1⟩ hK
  rw [more i K a ha hi]
  cases hg : g a
  ·rw [bif_f]
   exact hK _ ⟨rfl, by rw [take_succ ha, List.any_append, h1]; simp [hg]⟩
  ·rw [bif_t]
   refine ⟨_, rfl, ?_⟩
   rw [decide_eq_true (by omega)]
   exact (List.any_eq_true.2 ⟨a, get_mem ha, hg⟩).symm
 ·rintro _ K ⟨rfl, h1⟩
  rw [take_all (Nat.le_refl _)] at h1
  rw [done]
  exact ⟨_, rfl, by rw [h1]; rfl⟩
def begB (L : List TTurn) (p : List UInt8) (s : Int) : Bool := L.any fun t => decide (t.1 = p) && decide (t.2.1 = s)
theorem begins_eq {L : List TTurn} (hl : L.length ≤ 1000) (p : List UInt8) (s : Int) : F_impl_begins L p s = some (begB L p s) := by
 unfold F_impl_begins F_slices_ContainsFunc_STurn_Turn F_slices_IndexFunc_STurn_Turn
 obtain ⟨r, e, hr⟩ := idx_any (L := L) (g := fun t => decide (t.1 = p) && decide (t.2.1 = s)) (body := F_slices_IndexFunc_STurn_Turn_l0 L p s) (by omega) (by
  intro i k a ha hi
  simp only [F_slices_IndexFunc_STurn_Turn_l0, int_lt (get_lt ha), bif_t, ix_get ha, Option.bind_some, F_impl_begins_1, w64_succ hi]
  by_cases h1 : a.1 = p <;> by_cases h2 : a.2.1 = s <;> simp [h1, h2]) (by
  intro k
  simp only [F_slices_IndexFunc_STurn_Turn_l0, int_lt_self, bif_f])
 rw [e, Option.bind_some, hr]
 rfl
theorem plays_eq {L : List TTurn} (hl : L.length ≤ 1000) (p : List UInt8) : F_slices_ContainsFunc_STurn_Turn_1 L p = some (L.any fun t => decide (t.1 = p)) := by
 unfold F_slices_ContainsFunc_STurn_Turn_1 F_slices_IndexFunc_STurn_Turn_1
 obtain ⟨r, e, hr⟩ := idx_any (L := L) (g := fun t => decide (t.1 = p)) (body := F_slices_IndexFunc_STurn_Turn_1_l0 L p) (by omega) (by
  intro i k a ha hi
  simp only [F_slices_IndexFunc_STurn_Turn_1_l0, int_lt (get_lt ha), bif_t, ix_get ha, Option.bind_some, F_impl_SoloTime_1, w64_succ hi]) (by
  intro k
  simp only [F_slices_IndexFunc_STurn_Turn_1_l0, int_lt_self, bif_f])
 rw [e, Option.bind_some, hr]
theorem answersOk_eq {A : List TAnswer} (hl : A.length ≤ 8) (hA : ∀ a ∈ A, okA a) : F_impl_answersOk A = some true := by
 unfold F_impl_answersOk F_slices_ContainsFunc_SAnswer_Answer F_slices_IndexFunc_SAnswer_Answer
 obtain ⟨r, e, hr⟩ := idx_any (L := A) (g := fun _ => false) (body := F_slices_IndexFunc_SAnswer_Answer_l0 A) (by omega) (by
  intro i k a ha hi
  obtain ⟨o1, o2, o3⟩ := hA a (get_mem ha)
  have p1 := plys_ok _ o1
  have p2 := plys_ok _ o2
  simp only [F_slices_IndexFunc_SAnswer_Answer_l0, int_lt (get_lt ha), bif_t, ix_get ha, Option.bind_some, F_impl_answersOk_1, IsName_eq a.1 (by omega), IsName_eq a.2.1 (by omega), p1.1, p2.1, Bool.not_true, bif_f, within_eq, w64_succ hi]
  rw [decide_eq_true (by omega), Bool.not_true, bif_f]) (by
  intro k
  simp only [F_slices_IndexFunc_SAnswer_Answer_l0, int_lt_self, bif_f])
 rw [decide_eq_true (by omega), bif_t, e, Option.bind_some, Option.bind_some, hr]
 simp
def misP (L : List TTurn) (A : List TAnswer) (q : List Int) : Prop := ∃ (i k : Nat) (x : TAnswer) (t : TTurn), q = [(i : Int), (k : Int)] ∧ A[i]? = some x ∧ L[k]? = some t ∧ t.1 = x.1
theorem missed_ex {n : Nat} {L : List TTurn} (h : TW n L) (hn : n ≤ 24) {A : List TAnswer} (hl : A.length ≤ 8) (hA : ∀ a ∈ A, okA a) : ∃ M, F_impl_missed L A = some M ∧ M.length ≤ A.length * L.length ∧ ∀ q ∈ M, misP L A q := by
 have hL := h.len
 unfold F_impl_missed
 refine loop_ex (L := A) (fun i s => s.1 = (i : Int) ∧ s.2.length ≤ i * L.length ∧ ∀ q ∈ s.2, misP L A q) (by omega) ⟨rfl, by simp, by simp⟩ ?_ ?_
 ·rintro i ⟨_, M⟩ K x hx hi ⟨rfl, h1, h2⟩ hK
  dsimp only at h1 h2
  have hxi := get_lt hx
  obtain ⟨o1, o2, o3⟩ := hA x (get_mem hx)
  have hil : i * L.length ≤ 8 * 24 := Nat.mul_le_mul (by omega) (by omega)
  simp only [F_impl_missed_l0, int_lt hxi, bif_t, ix_get hx, Option.bind_some]
  refine loop_ex (L := L) (fun k s => s.1 = (k : Int) ∧ s.2.length ≤ i * L.length + k ∧ ∀ q ∈ s.2, misP L A q) (by omega) ⟨rfl, by dsimp only; omega, h2⟩ ?_ ?_
  ·rintro k ⟨_, M⟩ K2 t ht hk ⟨rfl, h1, h2⟩ hK2
   dsimp only at h1 h2
   have htk := get_lt ht
   obtain ⟨u1, u2, u3⟩ := h.ok t (get_mem ht)
   simp only [F_impl_missed_l1, int_lt htk, bif_t, ix_get ht, Option.bind_some, F_impl_Turn_end, begins_eq (show L.length ≤ 1000 by omega), w64_succ hk]
   rw [bif_dec]
   split
   ·rename_i hp
    cases hb : begB L x.2.1 (w64 (w64 (t.2.1 + t.2.2) + x.2.2))
    ·rw [Bool.not_false, bif_t, need_true (room_small (by simp only [List.length_singleton]; omega) (by omega))]
     refine hK2 _ ⟨rfl, ?_, fun q hq => ?_⟩
     ·dsimp only; rw [List.length_append, List.length_singleton]; omega
     ·rcases List.mem_append.1 hq with hq | hq
      ·exact h2 q hq
      ·rw [List.mem_singleton.1 hq]
       exact ⟨i, k, x, t, rfl, hx, ht, hp⟩
    ·rw [Bool.not_true, bif_f]
     exact hK2 _ ⟨rfl, by dsimp only; omega, h2⟩
   ·exact hK2 _ ⟨rfl, by dsimp only; omega, h2⟩
  ·rintro ⟨_, M⟩ K2 ⟨rfl, h1, h2⟩
   dsimp only at h1 h2
   simp only [F_impl_missed_l1, int_lt_self, bif_f, w64_succ hi]
   refine hK _ ⟨rfl, ?_, h2⟩
   dsimp only
   rw [Nat.succ_mul]
   exact h1
 ·rintro ⟨_, M⟩ K ⟨rfl, h1, h2⟩
  simp only [F_impl_missed_l0, int_lt_self, bif_f]
  exact ⟨_, rfl, h1, h2⟩
theorem Missed_eq {n : Nat} {L : List TTurn} (h : TW n L) (hn : n ≤ 24) {A : List TAnswer} (hl : A.length ≤ 8) (hA : ∀ a ∈ A, okA a) {M : List (List Int)} (hM : F_impl_missed L A = some M) : F_impl_MissedAnswers L A = some (M, 0) := by
 unfold F_impl_MissedAnswers
 rw [ValidTurns_eq (h.okl (by omega)), h.valid hn, Option.bind_some, Bool.not_true, bif_f, answersOk_eq hl hA, Option.bind_some, Bool.not_true, bif_f, hM, Option.bind_some]
def cT (a b : TTurn) : Int := or3 (cmpI a.2.1 b.2.1) (cmpT a.1 b.1) (cmpI a.2.2 b.2.2)
theorem compareT_eq (a b : TTurn) : F_impl_compareTurns a b = some (cT a b) := by
 unfold F_impl_compareTurns
 rw [cmpI_eq, cmpT_eq, cmpI_eq]
 simp only [Option.bind_some, Or3_eq]
 rfl
theorem cT_bef (a b : TTurn) : cT a b < 0 ↔ turnBef a b = true := by
 obtain ⟨c, e, hc⟩ := compareT_bef a b
 rw [compareT_eq] at e
 cases e
 cases hb : turnBef a b
 ·rw [hb] at hc
  have := of_decide_eq_true hc
  constructor
  ·intro h; omega
  ·intro h; cases h
 ·rw [hb] at hc
  have := of_decide_eq_false hc
  constructor
  ·intro _; rfl
  ·intro _; omega
def cutT (L : List TTurn) (t : TTurn) : Nat := cut (fun x => cT x t) L
theorem searchT {L : List TTurn} (h : srtT L) (hl : L.length ≤ 1000) (t : TTurn) : ∃ b, F_slices_BinarySearchFunc_STurn_Turn L t = some ((cutT L t : Int), b) := by
 refine ⟨match L[cutT L t]? with
  | some x => decide (cT x t = 0)
  | none => false, ?_⟩
 unfold F_slices_BinarySearchFunc_STurn_Turn
 refine loop_search (A := L) (c := fun x => cT x t) (fun n => ((n : Int), match L[n]? with
  | some x => decide (cT x t = 0)
  | none => false)) (by omega) ?_ ?_ ?_
 ·intro i j x y hij hx hy hc
  exact (cT_bef x t).2 (tb_trans (srtT_at h hij hx hy) ((cT_bef y t).1 hc))
 ·intro i j k x hij hj hx
  have hlt : decide ((i : Int) < (j : Int)) = true := decide_eq_true (by omega)
  have e : w64 ((((i + j) / 2 : Nat) : Int) + 1) = (((i + j) / 2 + 1 : Nat) : Int) := w64_succ (by omega)
  simp only [F_slices_BinarySearchFunc_STurn_Turn_l0, hlt, bif_t, need_true (show (0 : Int) ≤ 1 by omega), half_eq i j (by omega), ix_get hx, Option.bind_some, compareT_eq, e]
 ·intro i k hi
  simp only [F_slices_BinarySearchFunc_STurn_Turn_l0, Int.lt_irrefl, decide_false, bif_f]
  rcases Nat.lt_or_ge i L.length with h1 | h1
  ·obtain ⟨x, hx⟩ := get_some (L := L) (n := i) h1
   simp only [int_lt h1, bif_t, ix_get hx, Option.bind_some, compareT_eq, hx]
  ·have : L[i]? = none := List.getElem?_eq_none h1
   have hn : decide ((i : Int) < (L.length : Int)) = false := decide_eq_false (by omega)
   simp only [hn, bif_f, this]
theorem insT_ok {n : Nat} {L : List TTurn} (h : TW n L) {t : TTurn} (hm : t ∉ L) : srtT (L.take (cutT L t) ++ t :: L.drop (cutT L t)) := by
 refine ins_srt h.srt (fun k x hx hk => (cT_bef x t).1 (cut_lt (c := fun x => cT x t) hx hk)) (fun k x hx hk => ?_)
 obtain ⟨y, hy⟩ := get_some (L := L) (n := cutT L t) (by have := get_lt hx; omega)
 have h1 : turnBef t y = true := tb_tot (fun e => cut_at (c := fun x => cT x t) hy ((cT_bef y t).2 e)) (fun e => hm (by rw [← e]; exact get_mem hy))
 by_cases e : k = cutT L t
 ·subst e; rw [hx] at hy; cases hy; exact h1
 ·exact tb_trans h1 (srtT_at h.srt (by omega) hy hx)
theorem cloneT {L : List TTurn} (h : L.length ≤ 1000) : F_slices_Clone_STurn_Turn L = some L := by
 unfold F_slices_Clone_STurn_Turn
 have e : F_slices_Clone_STurn_Turn_j0 L = some L := by unfold F_slices_Clone_STurn_Turn_j0; rw [need_true (room_small (by omega) (by omega))]
 rw [e, bif_dec]
 split
 ·rename_i h0
  have : L = [] := List.eq_nil_of_length_eq_zero (by omega)
  subst this
  exact both_eq rfl
 ·rfl
def fndP (L : List TTurn) (A : List TAnswer) (N : List TTurn) (q : List Int) : Prop := ∃ (i k : Nat) (x : TAnswer) (t : TTurn), q = [(i : Int), (k : Int)] ∧ A[i]? = some x ∧ L[k]? = some t ∧ t.1 = x.1 ∧ ∃ u ∈ N, u.1 = x.2.1 ∧ u.2.1 = t.2.1 + t.2.2 + x.2.2
theorem add_ex {L : List TTurn} (h : TW 6 L) (hb : ∀ t ∈ L, t.2.1 ≤ 76 ∧ t.2.2 ≤ 20) {A : List TAnswer} (hl : A.length ≤ 2) (hA : ∀ a ∈ A, okA a) {M : List (List Int)} (hM : F_impl_missed L A = some M) (hm : M.length ≤ 12) (hp : ∀ q ∈ M, misP L A q) :
  ∃ N, F_impl_AddAnswers L A 8 = some (N, 0) ∧ TW 24 N ∧ ∀ q ∈ M, fndP L A N q := by
 have hL := h.len
 unfold F_impl_AddAnswers
 rw [ValidTurns_eq (h.okl (by omega)), h.valid (by omega), Option.bind_some, Bool.not_true, bif_f, answersOk_eq (by omega) hA, Option.bind_some, Bool.not_true]
 unfold F_impl_AddAnswers_j1
 rw [bif_f, within_eq, Option.bind_some, decide_eq_true (by omega), Bool.not_true, bif_f]
 unfold F_impl_AddAnswers_j0
 rw [cloneT (by omega), Option.bind_some, hM, Option.bind_some]
 obtain ⟨r, e, hr⟩ := loop_ex (body := F_impl_AddAnswers_l2 L A 8 M) (s0 := (0, L)) (L := M) (Q := fun r : List TTurn × Int => ∃ N, r = (N, 0) ∧ TW 24 N ∧ ∀ q ∈ M, fndP L A N q)
  (fun j s => s.1 = (j : Int) ∧ TW (6 + j) s.2 ∧ ∀ q ∈ M.take j, fndP L A s.2 q) (by omega) ⟨rfl, h, by simp⟩
  (by
   rintro j ⟨_, N⟩ K q hq hj ⟨rfl, h1, h2⟩ hK
   dsimp only at h1 h2
   have hjm := get_lt hq
   have hN := h1.len
   obtain ⟨i, k, x, t, rfl, hx, ht, hxt⟩ := hp q (get_mem hq)
   obtain ⟨u1, u2, u3⟩ := h.ok t (get_mem ht)
   have hb := hb t (get_mem ht)
   obtain ⟨o1, o2, o3⟩ := hA x (get_mem hx)
   have i0 : ix [(i : Int), (k : Int)] 0 = some (i : Int) := rfl
   have i1 : ix [(i : Int), (k : Int)] 1 = some (k : Int) := rfl
   simp only [F_impl_AddAnswers_l2, int_lt hjm, bif_t, ix_get hq, Option.bind_some, i0, i1, ix_get hx, ix_get ht, F_impl_Turn_end, w64_succ hj]
   rw [w64_id (x := t.2.1 + t.2.2) (by omega), w64_id (x := t.2.1 + t.2.2 + x.2.2) (by omega), begins_eq (by omega), Option.bind_some]
   have old : ∀ N' : List TTurn, (∀ u ∈ N, u ∈ N') → (∃ u ∈ N', u.1 = x.2.1 ∧ u.2.1 = t.2.1 + t.2.2 + x.2.2) → ∀ q ∈ M.take (j + 1), fndP L A N' q := by
    intro N' hs hu q' hq'
    rw [take_succ hq] at hq'
    rcases List.mem_append.1 hq' with hq' | hq'
    ·obtain ⟨i, k, x, t, p1, p2, p3, p4, u, p5, p6⟩ := h2 q' hq'
     exact ⟨i, k, x, t, p1, p2, p3, p4, u, hs u p5, p6⟩
    ·rw [List.mem_singleton.1 hq']
     exact ⟨i, k, x, t, rfl, hx, ht, hxt, hu⟩
   cases hbg : begB N x.2.1 (t.2.1 + t.2.2 + x.2.2)
   ·rw [bif_f]
    have hu : (x.2.1, t.2.1 + t.2.2 + x.2.2, (8 : Int)) ∉ N := fun hu => by
     unfold begB at hbg
     rw [List.any_eq_false] at hbg
     have := hbg _ hu
     simp at this
    have ho : (x.2.1, t.2.1 + t.2.2 + x.2.2, (8 : Int)).1 ∈ plys ∧ (0 ≤ (x.2.1, t.2.1 + t.2.2 + x.2.2, (8 : Int)).2.1 ∧ (x.2.1, t.2.1 + t.2.2 + x.2.2, (8 : Int)).2.1 ≤ 200) ∧ (1 ≤ (x.2.1, t.2.1 + t.2.2 + x.2.2, (8 : Int)).2.2 ∧ (x.2.1, t.2.1 + t.2.2 + x.2.2, (8 : Int)).2.2 ≤ 100) := ⟨o2, ⟨by dsimp only; omega, by dsimp only; omega⟩, ⟨by dsimp only; omega, by dsimp only; omega⟩⟩
    have hT : TW (6 + j + 1) (N.take (cutT N (x.2.1, t.2.1 + t.2.2 + x.2.2, 8)) ++ (x.2.1, t.2.1 + t.2.2 + x.2.2, 8) :: N.drop (cutT N (x.2.1, t.2.1 + t.2.2 + x.2.2, 8))) := h1.ins ho (insT_ok h1 hu)
    have hv : F_impl_Turn_valid (x.2.1, t.2.1 + t.2.2 + x.2.2, (8 : Int)) = some true := by
     rw [Tvalid_eq ((hT.okl (by omega)).2 _ (ins_mem.2 (.inl rfl))), hT.tok _ (ins_mem.2 (.inl rfl))]
    obtain ⟨b, hs⟩ := searchT h1.srt (by omega) (x.2.1, t.2.1 + t.2.2 + x.2.2, (8 : Int))
    have hc := cut_le (fun y => cT y (x.2.1, t.2.1 + t.2.2 + x.2.2, (8 : Int))) N
    have hins : F_ins 32 N (cutT N (x.2.1, t.2.1 + t.2.2 + x.2.2, 8) : Int) [(x.2.1, t.2.1 + t.2.2 + x.2.2, (8 : Int))] = some (N.take (cutT N (x.2.1, t.2.1 + t.2.2 + x.2.2, 8)) ++ (x.2.1, t.2.1 + t.2.2 + x.2.2, 8) :: N.drop (cutT N (x.2.1, t.2.1 + t.2.2 + x.2.2, 8))) := by
     have hr : room (N.length + 1) 32 := room_small (by omega) (by omega)
     have hc : cutT N (x.2.1, t.2.1 + t.2.2 + x.2.2, 8) ≤ N.length := hc
     simp only [F_ins, List.length_singleton]
     rw [need_true ⟨by omega, by omega, hr⟩]
     simp
    rw [hv, Option.bind_some, Bool.not_true, bif_f, hs, Option.bind_some]
    dsimp only
    rw [hins, Option.bind_some]
    exact hK _ ⟨rfl, hT.up (by omega), old _ (fun u hu => ins_mem.2 (.inr hu)) ⟨_, ins_mem.2 (.inl rfl), rfl, rfl⟩⟩
   ·rw [bif_t]
    refine hK _ ⟨rfl, h1.up (by omega), old N (fun _ h => h) ?_⟩
    unfold begB at hbg
    rw [List.any_eq_true] at hbg
    obtain ⟨u, hu, h3⟩ := hbg
    simp only [Bool.and_eq_true, decide_eq_true_eq] at h3
    exact ⟨u, hu, h3⟩)
  (by
   rintro ⟨_, N⟩ K ⟨rfl, h1, h2⟩
   dsimp only at h1 h2
   have := h1.len
   rw [take_all (Nat.le_refl _)] at h2
   simp only [F_impl_AddAnswers_l2, int_lt_self, bif_f]
   rw [bif_dec, if_neg (by omega)]
   exact ⟨_, rfl, N, rfl, h1.up (by omega), h2⟩)
 obtain ⟨N, rfl, h3, h4⟩ := hr
 exact ⟨N, e, h3, h4⟩
def silP (L : List TTurn) (q : List Int) : Prop := ∃ a b : Int, q = [a, b] ∧ 0 ≤ a ∧ a < b ∧ b ≤ 200 ∧ ∀ time, a ≤ time → time < b → ∀ t ∈ L, cov time t = false
theorem sil_ex {n : Nat} {L : List TTurn} (h : TW n L) (hn : n ≤ 24) : ∃ S, F_impl_SilencesOf L = some (S, 0) ∧ S.length ≤ 24 ∧ ∀ q ∈ S, silP L q := by
 have hL := h.len
 unfold F_impl_SilencesOf
 rw [ValidTurns_eq (h.okl (by omega)), h.valid hn, Option.bind_some, Bool.not_true, bif_f]
 obtain ⟨r, e, hr⟩ := loop_ex (body := F_impl_SilencesOf_l0 L) (s0 := (0, 0, [])) (L := L) (Q := fun r : List (List Int) × Int => ∃ S, r = (S, 0) ∧ S.length ≤ 24 ∧ ∀ q ∈ S, silP L q)
  (fun i s => s.2.1 = (i : Int) ∧ (0 ≤ s.1 ∧ s.1 ≤ 300) ∧ (∀ t ∈ L.take i, t.2.1 + t.2.2 ≤ s.1) ∧ s.2.2.length ≤ i ∧ ∀ q ∈ s.2.2, silP L q) (by omega) ⟨rfl, by dsimp only; omega, by simp, by simp, by simp⟩
  (by
   rintro i ⟨p, _, S⟩ K t ht hi ⟨rfl, h1, h2, h3, h4⟩ hK
   dsimp only at h1 h2 h3 h4
   have hit := get_lt ht
   obtain ⟨u1, u2, u3⟩ := h.ok t (get_mem ht)
   have hmax : ∀ y : Int, y = (if t.2.1 + t.2.2 > p then t.2.1 + t.2.2 else p) → (0 ≤ y ∧ y ≤ 300) ∧ (∀ x ∈ L.take (i + 1), x.2.1 + x.2.2 ≤ y) := by
    intro y hy
    refine ⟨by split at hy <;> omega, fun x hx => ?_⟩
    rw [take_succ ht] at hx
    rcases List.mem_append.1 hx with hx | hx
    ·have := h2 x hx
     split at hy <;> omega
    ·rw [List.mem_singleton.1 hx]
     split at hy <;> omega
   obtain ⟨m1, m2⟩ := hmax _ rfl
   simp only [F_impl_SilencesOf_l0, int_lt hit, bif_t, ix_get ht, Option.bind_some, F_impl_Turn_end, w64_succ hi]
   rw [w64_id (x := t.2.1 + t.2.2) (by omega), bif_dec]
   split
   ·rename_i hlt
    rw [need_true (room_small (by simp only [List.length_singleton]; omega) (by omega))]
    refine hK _ ⟨rfl, m1, m2, ?_, fun q hq => ?_⟩
    ·dsimp only; rw [List.length_append, List.length_singleton]; omega
    ·rcases List.mem_append.1 hq with hq | hq
     ·exact h4 q hq
     ·rw [List.mem_singleton.1 hq]
      refine ⟨p, t.2.1, rfl, h1.1, hlt, u2.2, fun time k1 k2 x hx => ?_⟩
      obtain ⟨k, hk⟩ := List.mem_iff_getElem?.1 hx
      unfold cov
      refine decide_eq_false fun hc => ?_
      rcases Nat.lt_or_ge k i with hki | hki
      ·have := h2 x (List.mem_iff_getElem?.2 ⟨k, by rw [List.getElem?_take, if_pos hki]; exact hk⟩)
       omega
      ·rcases Nat.eq_or_lt_of_le hki with e | e
       ·subst e; rw [ht] at hk; cases hk; omega
       ·have := tb_start (srtT_at h.srt e ht hk)
        omega
   ·exact hK _ ⟨rfl, m1, m2, by dsimp only; omega, h4⟩)
  (by
   rintro ⟨p, _, S⟩ K ⟨rfl, h1, h2, h3, h4⟩
   dsimp only at h1 h2 h3 h4
   simp only [F_impl_SilencesOf_l0, int_lt_self, bif_f]
   exact ⟨_, rfl, S, rfl, by omega, h4⟩)
 obtain ⟨S, rfl, h3, h4⟩ := hr
 exact ⟨S, e, h3, h4⟩
theorem equal_one (R : List Str) (hl : R.length ≤ 1000) (p : Str) : ∃ b, F_slices_Equal_Sstring_string R [p] = some b ∧ (b = true → p ∈ R) := by
 unfold F_slices_Equal_Sstring_string
 rw [bif_dec]
 split
 ·exact ⟨_, rfl, fun h => by cases h⟩
 ·rename_i h
  obtain ⟨x, rfl⟩ : ∃ x, R = [x] := by
   have h1 : R.length = 1 := by simp at h; omega
   exact List.length_eq_one_iff.1 h1
  refine loop_ex (L := [x]) (fun i s => s = (i : Int) ∧ (i = 1 → x = p)) (by simp) ⟨rfl, fun h => by omega⟩ ?_ ?_
  ·rintro i _ K a ha hi ⟨rfl, h1⟩ hK
   have hlt := get_lt ha
   have hi0 : i = 0 := by simp at hlt; omega
   subst hi0
   simp at ha
   subst ha
   have i0 : ix [x] ((0 : Nat) : Int) = some x := rfl
   have i1 : ix [p] ((0 : Nat) : Int) = some p := rfl
   simp only [F_slices_Equal_Sstring_string_l0, int_lt hlt, bif_t, i0, i1, Option.bind_some, w64_succ hi]
   rw [bif_dec]
   split
   ·exact ⟨_, rfl, fun h => by cases h⟩
   ·rename_i hx
    exact hK _ ⟨rfl, fun _ => by simpa using hx⟩
  ·rintro _ K ⟨rfl, h1⟩
   simp only [F_slices_Equal_Sstring_string_l0, int_lt_self, bif_f]
   exact ⟨_, rfl, fun _ => by rw [h1 rfl]; simp⟩
theorem solo_ex {n : Nat} {L : List TTurn} (h : TW n L) (hn : n ≤ 24) {p : Str} (hp : ∃ t ∈ L, t.1 = p) : ∃ v, F_impl_SoloTime L p = some (v, 0) ∧ 0 ≤ v ∧ v ≤ lenSum p L := by
 have hL := h.len
 have hany : (L.any fun t => decide (t.1 = p)) = true := by
  obtain ⟨t, ht, e⟩ := hp
  exact List.any_eq_true.2 ⟨t, ht, decide_eq_true e⟩
 unfold F_impl_SoloTime
 rw [ValidTurns_eq (h.okl (by omega)), h.valid hn, Option.bind_some, Bool.not_true, bif_f, plays_eq (by omega), hany, Option.bind_some, Bool.not_true, bif_f]
 have hcnt := cnt_cov p 20000 L (fun t ht => by obtain ⟨_, u2, u3⟩ := h.ok t ht; omega)
 obtain ⟨r, e, hr⟩ := loop_mu (body := F_impl_SoloTime_l0 L p) (s0 := (0, 0)) (Q := fun r : Int × Int => ∃ v, r = (v, 0) ∧ 0 ≤ v ∧ v ≤ lenSum p L)
  (fun s => ∃ k : Nat, s.2 = (k : Int) ∧ k ≤ 20000 ∧ 0 ≤ s.1 ∧ s.1 ≤ (cnt (fun k => L.any fun t => decide (t.1 = p) && cov (k : Int) t) k : Int)) (fun s => (20000 - s.2).toNat) ⟨0, rfl, by omega, Int.le_refl _, by simp [cnt]⟩ (lt_lim (by dsimp only; omega))
  (by
   rintro ⟨v, _⟩ K ⟨k, rfl, h1, h2, h3⟩ hK
   dsimp only at h2 h3
   have hk64 : (cnt (fun k => L.any fun t => decide (t.1 = p) && cov (k : Int) t) k : Int) ≤ k := by
    have : ∀ (q : Nat → Bool) (m : Nat), cnt q m ≤ m := by
     intro q m
     induction m with
     | zero => exact Nat.le_refl _
     | succ m ih => simp only [cnt]; split <;> omega
    exact Int.ofNat_le.2 (this _ k)
   simp only [F_impl_SoloTime_l0]
   rw [bif_dec]
   split
   ·rename_i hlt
    obtain ⟨R, eR, _, hR⟩ := playersAt_ex h (by omega) (k : Int)
    rw [eR, Option.bind_some]
    have hRl : R.length ≤ 1000 := by
     have hd : R.Nodup := by rename_i hs; exact hs.imp fun h => lt_ne h
     have := hd.length_le_of_subset (l₂ := L.map (·.1)) (fun y hy => by
      obtain ⟨t, ht, _, e⟩ := (hR y).1 hy
      exact List.mem_map.2 ⟨t, ht, e⟩)
     rw [List.length_map] at this
     omega
    obtain ⟨b, eb, hb⟩ := equal_one R hRl p
    rw [eb, Option.bind_some, w64_succ (by omega)]
    cases b
    ·rw [bif_f]
     refine hK _ ⟨k + 1, rfl, by omega, h2, ?_⟩ (by dsimp only; omega)
     dsimp only [cnt]
     omega
    ·rw [bif_t, w64_id (by omega)]
     refine hK _ ⟨k + 1, rfl, by omega, by dsimp only; omega, ?_⟩ (by dsimp only; omega)
     obtain ⟨t, ht, hc, e⟩ := (hR p).1 (hb rfl)
     have hany : (L.any fun t => decide (t.1 = p) && cov (k : Int) t) = true := List.any_eq_true.2 ⟨t, ht, by rw [decide_eq_true e, hc]; rfl⟩
     dsimp only [cnt]
     rw [if_pos hany]
     omega
   ·have : k = 20000 := by omega
    subst this
    exact ⟨_, rfl, v, rfl, h2, by omega⟩)
 obtain ⟨v, rfl, h3, h4⟩ := hr
 exact ⟨v, e, h3, h4⟩
theorem full_ex {n : Nat} {L : List TTurn} (h : TW n L) (hn : n ≤ 24) (hne : L ≠ []) : ∃ (a : Int) (R : List Str), F_impl_FullestTime L = some (a, (R.length : Int), 0) ∧ (0 ≤ a ∧ a ≤ 200) ∧ F_impl_playersAt L a = some R ∧ 1 ≤ R.length := by
 have hL := h.len
 have h0 : L.length ≠ 0 := fun e => hne (List.eq_nil_of_length_eq_zero e)
 unfold F_impl_FullestTime
 rw [ValidTurns_eq (h.okl (by omega)), h.valid hn, Option.bind_some, Bool.not_true, bif_f, bif_dec, if_neg (by omega)]
 obtain ⟨r, e, hr⟩ := loop_ex (body := F_impl_FullestTime_l0 L) (s0 := (0, 0, 0)) (L := L) (Q := fun r : Int × Int × Int => ∃ (a : Int) (R : List Str), r = (a, (R.length : Int), 0) ∧ (0 ≤ a ∧ a ≤ 200) ∧ F_impl_playersAt L a = some R ∧ 1 ≤ R.length)
  (fun i s => s.2.2 = (i : Int) ∧ ((i = 0 ∧ s.2.1 = 0) ∨ ∃ R : List Str, s.2.1 = (R.length : Int) ∧ (0 ≤ s.1 ∧ s.1 ≤ 200) ∧ F_impl_playersAt L s.1 = some R ∧ 1 ≤ R.length)) (by omega) ⟨rfl, .inl ⟨rfl, rfl⟩⟩
  (by
   rintro i ⟨a, m, _⟩ K t ht hi ⟨rfl, h1⟩ hK
   dsimp only at h1
   have hit := get_lt ht
   obtain ⟨u1, u2, u3⟩ := h.ok t (get_mem ht)
   obtain ⟨R, eR, _, hR⟩ := playersAt_ex h (by omega) t.2.1
   have hR1 : 1 ≤ R.length := by
    have : t.1 ∈ R := (hR t.1).2 ⟨t, get_mem ht, by unfold cov; exact decide_eq_true (by omega), rfl⟩
    exact List.length_pos_of_mem this
   simp only [F_impl_FullestTime_l0, int_lt hit, bif_t, ix_get ht, Option.bind_some, eR, w64_succ hi]
   rw [bif_dec]
   split
   ·exact hK _ ⟨rfl, .inr ⟨R, rfl, u2, eR, hR1⟩⟩
   ·rename_i hlt
    refine hK _ ⟨rfl, .inr ?_⟩
    rcases h1 with ⟨_, h1⟩ | h1
    ·omega
    ·exact h1)
  (by
   rintro ⟨a, m, _⟩ K ⟨rfl, h1⟩
   dsimp only at h1
   simp only [F_impl_FullestTime_l0, int_lt_self, bif_f]
   rcases h1 with ⟨h1, _⟩ | ⟨R, rfl, h2, h3, h4⟩
   ·exact absurd h1 h0
   ·exact ⟨_, rfl, a, R, rfl, h2, h3, h4⟩)
 obtain ⟨a, R, rfl, h3⟩ := hr
 exact ⟨a, R, e, h3⟩
end Go.Ab
set_option linter.unusedVariables false
set_option linter.unusedSimpArgs false
namespace Go.Ab
open Go.RowKit
theorem lenSum_snoc (p : List UInt8) (y : TTurn) : ∀ L : List TTurn, lenSum p (L ++ [y]) = lenSum p L + (if y.1 = p then y.2.2 else 0)
 | [] => by simp [lenSum]
 | t :: L => by
  have ih := lenSum_snoc p y L
  simp only [List.cons_append, lenSum, ih]
  omega
theorem no_players {n : Nat} {L : List TTurn} (h : TW n L) (hn : n ≤ 24) {time : Int} (h0 : 0 ≤ time ∧ time ≤ 20000) (hc : ∀ t ∈ L, cov time t = false) : F_impl_PlayersAt L time = some ([], 0) := by
 obtain ⟨R, eR, _, hR⟩ := playersAt_ex h (by omega) time
 have : R = [] := List.eq_nil_iff_forall_not_mem.2 fun y hy => by
  obtain ⟨t, ht, h1, _⟩ := (hR y).1 hy
  rw [hc t ht] at h1
  cases h1
 subst this
 exact PlayersAt_eq h hn h0 eR
theorem ens_last {L : List TTurn} (h : TW 6 L) {t0 : TTurn} (h0 : L[0]? = some t0) : ∃ r, loop (F_laws_FnEnsemble_l7 L t0) (0, 0) = some r ∧ r = true := by
 have hL := h.len
 refine loop_ex (L := L) (fun i s => s.2 = (i : Int) ∧ s.1 = lenSum t0.1 (L.take i) ∧ (0 ≤ s.1 ∧ s.1 ≤ 100 * i)) (by omega) ⟨rfl, rfl, by dsimp only; omega⟩ ?_ ?_
 ·rintro i ⟨v, _⟩ K t ht hi ⟨rfl, h1, h2⟩ hK
  dsimp only at h1 h2
  have hit := get_lt ht
  obtain ⟨u1, u2, u3⟩ := h.ok t (get_mem ht)
  simp only [F_laws_FnEnsemble_l7, int_lt hit, bif_t, ix_get ht, Option.bind_some, w64_succ hi]
  rw [bif_dec]
  split
  ·rename_i hp
   rw [w64_id (by omega)]
   refine hK _ ⟨rfl, ?_, by dsimp only; omega⟩
   dsimp only
   rw [take_succ ht, lenSum_snoc, if_pos hp, h1]
  ·rename_i hp
   refine hK _ ⟨rfl, ?_, by dsimp only; omega⟩
   dsimp only
   rw [take_succ ht, lenSum_snoc, if_neg hp, h1, Int.add_zero]
 ·rintro ⟨v, _⟩ K ⟨rfl, h1, h2⟩
  dsimp only at h1 h2
  rw [take_all (Nat.le_refl _)] at h1
  obtain ⟨s, es, s1, s2⟩ := solo_ex h (by omega) (p := t0.1) ⟨t0, get_mem h0, rfl⟩
  obtain ⟨a, R, ef, a1, eR, r1⟩ := full_ex h (by omega) (fun e => by subst e; simp at h0)
  simp only [F_laws_FnEnsemble_l7, int_lt_self, bif_f, es, ef, Option.bind_some, PlayersAt_eq h (by omega) (show 0 ≤ a ∧ a ≤ 20000 by omega) eR]
  have d1 : decide (s ≤ v) = true := decide_eq_true (by omega)
  have d2 : decide ((1 : Int) ≤ (R.length : Int)) = true := decide_eq_true (by omega)
  have d3 : decide ((0 : Int) ≤ s) = true := decide_eq_true s1
  simp only [decide_true, bif_t, d1, d2, d3]
  exact ⟨_, rfl, rfl⟩
theorem ens_sil {L : List TTurn} (h : TW 6 L) {S : List (List Int)} (hS : S.length ≤ 24) (hs : ∀ q ∈ S, silP L q) : ∃ r, loop (F_laws_FnEnsemble_l5 L (S, 0)) 0 = some r ∧ r = true := by
 have hL := h.len
 refine loop_ex (L := S) (fun i s => s = (i : Int)) (by omega) rfl ?_ ?_
 ·rintro i _ K q hq hi rfl hK
  have hiq := get_lt hq
  obtain ⟨a, b, rfl, k1, k2, k3, k4⟩ := hs q (get_mem hq)
  have i0 : ix [a, b] 0 = some a := rfl
  have i1 : ix [a, b] 1 = some b := rfl
  have l2 : decide ((([a, b] : List Int).length : Int) ≠ 2) = false := rfl
  simp only [F_laws_FnEnsemble_l5, int_lt hiq, bif_t, ix_get hq, Option.bind_some, i0, i1, l2, bif_f]
  rw [decide_eq_false (show ¬ b ≤ a by omega), bif_f, decide_eq_false (show ¬ a < 0 by omega), bif_f, decide_eq_false (show ¬ (200 : Int) < b by omega), bif_f]
  refine loop_mu (fun s => a ≤ s ∧ s ≤ b) (fun s => (b - s).toNat) ⟨Int.le_refl _, by omega⟩ (lt_lim (by omega)) ?_
  rintro time K2 ⟨m1, m2⟩ hK2
  simp only [F_laws_FnEnsemble_l6, ix_get hq, Option.bind_some, i1]
  rw [bif_dec]
  split
  ·rename_i hlt
   rw [no_players h (by omega) (by omega) (k4 time m1 hlt), Option.bind_some]
   simp only [ne_eq, not_true_eq_false, decide_false, bif_f, List.length_nil]
   rw [w64_id (by omega)]
   exact hK2 _ ⟨by omega, by omega⟩ (by omega)
  ·rw [w64_succ hi]
   exact hK _ rfl
 ·rintro _ K rfl
  simp only [F_laws_FnEnsemble_l5, int_lt_self, bif_f]
  rw [bif_dec]
  split
  ·exact ⟨_, rfl, rfl⟩
  ·rename_i h0
   obtain ⟨t0, ht0⟩ := get_some (L := L) (n := 0) (by omega)
   have i0 : ix L 0 = some t0 := ix_get ht0
   rw [i0, Option.bind_some]
   exact ens_last h ht0
theorem ens_all {L : List TTurn} (h : TW 6 L) (hb : ∀ t ∈ L, t.2.1 ≤ 76 ∧ t.2.2 ≤ 20) {A : List TAnswer} (hl : A.length ≤ 2) (hA : ∀ a ∈ A, okA a) {M : List (List Int)} (hm : M.length ≤ 12) {N : List TTurn} (hN : TW 24 N) (hf : ∀ q ∈ M, fndP L A N q) :
  F_laws_FnEnsemble_j0 L A (M, 0) (N, 0) = some true := by
 have hL := h.len
 have hNl := hN.len
 unfold F_laws_FnEnsemble_j0
 obtain ⟨r, e, hr⟩ : ∃ r, loop (F_laws_FnEnsemble_l1 L A (M, 0) (N, 0)) 0 = some r ∧ r = true := by
  refine loop_ex (L := M) (fun i s => s = (i : Int)) (by omega) rfl ?_ ?_
  ·rintro i _ K q hq hi rfl hK
   have hiq := get_lt hq
   obtain ⟨a, k, x, t, rfl, hx, ht, hxt, u, hu, hu1, hu2⟩ := hf q (get_mem hq)
   have hax := get_lt hx
   have hkt := get_lt ht
   obtain ⟨u1, u2, u3⟩ := h.ok t (get_mem ht)
   obtain ⟨o1, o2, o3⟩ := hA x (get_mem hx)
   have i0 : ix [(a : Int), (k : Int)] 0 = some (a : Int) := rfl
   have i1 : ix [(a : Int), (k : Int)] 1 = some (k : Int) := rfl
   have l2 : decide ((([(a : Int), (k : Int)] : List Int).length : Int) ≠ 2) = false := rfl
   simp only [F_laws_FnEnsemble_l1, int_lt hiq, bif_t, ix_get hq, Option.bind_some, i0, i1, l2, bif_f, ix_get hx, ix_get ht]
   rw [decide_eq_false (show ¬ (a : Int) < 0 by omega), bif_f, decide_eq_false (show ¬ (A.length : Int) ≤ (a : Int) by omega), bif_f, decide_eq_false (show ¬ (k : Int) < 0 by omega), bif_f, decide_eq_false (show ¬ (L.length : Int) ≤ (k : Int) by omega), bif_f, decide_eq_false (show ¬ t.1 ≠ x.1 from fun n => n hxt), bif_f]
   refine loop_ex (L := N) (fun j s => s.2 = (j : Int) ∧ (u ∈ N.take j → s.1 = true)) (by omega) ⟨rfl, by simp⟩ ?_ ?_
   ·rintro j ⟨b, _⟩ K2 y hy hj ⟨rfl, m1⟩ hK2
    dsimp only at m1
    simp only [F_laws_FnEnsemble_l2, int_lt (get_lt hy), bif_t, ix_get hy, i0, Option.bind_some, ix_get hx, w64_succ hj]
    rw [w64_id (x := t.2.1 + t.2.2) (by omega), w64_id (x := t.2.1 + t.2.2 + x.2.2) (by omega)]
    have e4 : u ∈ N.take (j + 1) → u ∈ N.take j ∨ u = y := by
     rw [take_succ hy, List.mem_append, List.mem_singleton]
     exact id
    cases b
    ·rw [bif_f, bif_dec]
     have m2 : ¬ u ∈ N.take j := fun h => by have := m1 h; cases this
     split
     ·refine hK2 _ ⟨rfl, fun hm => ?_⟩
      rcases e4 hm with h4 | h4
      ·exact absurd h4 m2
      ·subst h4; exact decide_eq_true hu2
     ·rename_i hn
      refine hK2 _ ⟨rfl, fun hm => ?_⟩
      rcases e4 hm with h4 | h4
      ·exact absurd h4 m2
      ·subst h4; exact absurd hu1 hn
    ·rw [bif_t]
     exact hK2 _ ⟨rfl, fun _ => rfl⟩
   ·rintro ⟨b, _⟩ K2 ⟨rfl, m1⟩
    dsimp only at m1
    rw [take_all (Nat.le_refl _)] at m1
    have := m1 hu
    subst this
    simp only [F_laws_FnEnsemble_l2, int_lt_self, bif_f, w64_succ hi, Bool.not_true]
    simp only [decide_true, bif_t]
    exact hK _ rfl
  ·rintro _ K rfl
   obtain ⟨S, eS, lS, hS⟩ := sil_ex h (by omega)
   simp only [F_laws_FnEnsemble_l1, int_lt_self, bif_f, eS, Option.bind_some, ne_eq, not_true_eq_false, decide_false]
   exact ens_sil h lS hS
 rw [e, hr]
theorem law_FnEnsemble (c d : List Int) (oc : (OkL OkU) c) (od : (OkL OkU) d) : F_laws_FnEnsemble c d = some true := by
 unfold F_laws_FnEnsemble
 obtain ⟨L, eL, hT, hb⟩ := turns_ok oc.2
 obtain ⟨A, eA, hl, hA⟩ := answers_ok od.2
 obtain ⟨M, eM, lM, hM⟩ := missed_ex hT (by omega) (show A.length ≤ 8 by omega) hA
 have hm : M.length ≤ 12 := Nat.le_trans lM (Nat.mul_le_mul hl hT.len)
 obtain ⟨N, eN, hN, hf⟩ := add_ex hT hb hl hA eM hm hM
 obtain ⟨b, hbl⟩ : ∃ b, F_laws_r8Long c d = some b := by
  unfold F_laws_r8Long
  rw [bif_dec]
  split <;> exact ⟨_, rfl⟩
 have hv : F_spec_ValidTurns N = some true := by
  unfold F_spec_ValidTurns
  rw [l23Ok_eq (hN.okl (by omega)), hN.valid (by omega), Option.bind_some]
 rw [hbl, Option.bind_some]
 cases b
 ·rw [bif_f, eL, Option.bind_some, eA, Option.bind_some, Missed_eq hT (by omega) (by omega) hA eM, Option.bind_some, eN, Option.bind_some]
  have d0 : decide ((0 : Int) ≠ 0) = false := rfl
  have d1 : decide ((0 : Int) = 0) = true := rfl
  dsimp only
  rw [d0, bif_f, bif_f, d1, bif_t, hv, Option.bind_some, Bool.not_true, bif_f]
  exact ens_all hT hb hl hA hm hN hf
 ·rw [bif_t]
end Go.Ab
