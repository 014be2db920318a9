import Derived.Test.YtpnmhfbiaajaeaaGreatDoorPL
import Derived.Test.YtpnmhfbiaajaeaaGreatDoorPS
import Derived.Sort.Walk0
import Derived.Lib.ItoaNum
import Derived.Test.YtpnmhfbiaajaeaaGreatDoorGT
import Derived.Lib.SplitLaws
namespace Go.Ab
abbrev Str := List UInt8
end Go.Ab
set_option linter.unusedVariables false
set_option linter.unusedSimpArgs false
namespace Go.Ab
open Go.RowKit
def nb (b : UInt8) : Bool := decide ((97 ≤ b.toNat ∧ b.toNat ≤ 122) ∨ (48 ≤ b.toNat ∧ b.toNat ≤ 57))
def lowHead : List UInt8 → Bool
 | [] => false
 | b :: _ => decide (97 ≤ b.toNat ∧ b.toNat ≤ 122)
def nameOk (s : List UInt8) : Bool := decide (s.length ≤ 10) && (lowHead s && s.all nb)
theorem l01Small_eq (c : Int) : F_spec_l01Small c = some (decide (97 ≤ c ∧ c ≤ 122)) := by
 unfold F_spec_l01Small
 by_cases h : 97 ≤ c <;> simp [h]
theorem l01Digit_eq (c : Int) : F_spec_l01Digit c = some (decide (48 ≤ c ∧ c ≤ 57)) := by
 unfold F_spec_l01Digit
 by_cases h : 48 ≤ c <;> simp [h]
theorem l01Name_eq (s : List UInt8) (hs : s.length ≤ 9223372036854775807) : F_spec_l01Name s = some (nameOk s) := by
 unfold F_spec_l01Name
 cases s with
 | nil => rfl
 | cons b t =>
  have e : loop (F_spec_l01Name_l0 (b :: t)) 0 = some ((b :: t).all nb) := by
   refine loop_all nb hs ?_ ?_
   ·intro i k a ha hi
    simp only [F_spec_l01Name_l0, int_lt (get_lt ha), ix_get ha, Option.bind_some, bif_t, l01Small_eq, l01Digit_eq, w64_succ hi, ← decide_not, bif_dec, nb]
    repeat' split
    all_goals first | rfl | (exfalso; omega)
   ·intro k; simp [F_spec_l01Name_l0]
  rw [e]
  simp only [reduceCtorEq, decide_false, bif_f, ix_zero, Option.bind_some, l01Small_eq, ← decide_not, bif_dec, nameOk, lowHead]
  split
  ·rename_i h; rw [decide_eq_false (by omega)]; rfl
  ·rename_i h
   rw [decide_eq_true (by omega)]
   split
   ·rename_i h2; rw [decide_eq_false (by omega)]; rfl
   ·rename_i h2; rw [decide_eq_true (by omega)]; rfl
theorem onlyNameBytes_eq (s : List UInt8) (hs : s.length ≤ 9223372036854775807) : F_impl_onlyNameBytes s = some (s.all nb) := by
 unfold F_impl_onlyNameBytes
 refine loop_all nb hs ?_ ?_
 ·intro i k a ha hi
  simp only [F_impl_onlyNameBytes_l0, int_lt (get_lt ha), ix_get ha, Option.bind_some, bif_t, w64_succ hi, bif_dec, nb]
  repeat' split
  all_goals first | rfl | (exfalso; omega)
 ·intro k; simp [F_impl_onlyNameBytes_l0]
theorem IsName_eq (s : List UInt8) (hs : s.length ≤ 9223372036854775807) : F_impl_IsName s = some (nameOk s) := by
 unfold F_impl_IsName
 rw [onlyNameBytes_eq s hs]
 cases s with
 | nil => rfl
 | cons b t =>
  simp only [ix_zero, Option.bind_some, bif_dec, nameOk, lowHead]
  split
  ·rename_i h; simp at h; omega
  ·split
   ·rename_i h; rw [decide_eq_false (by omega)]; rfl
   ·rename_i h
    rw [decide_eq_true (by omega)]
    split
    ·rename_i h2; rw [decide_eq_false (by omega)]; rfl
    ·split
     ·rename_i h2; rw [decide_eq_false (by omega)]; rfl
     ·rw [decide_eq_true (by omega)]; rfl
end Go.Ab
set_option linter.unusedVariables false
set_option linter.unusedSimpArgs false
namespace Go.Ab
open Go.RowKit
section
variable {α : Type}
def adj (one : α → Bool) (bef : α → α → Bool) : Option α → List α → Bool
 | _, [] => true
 | none, x :: t => one x && adj one bef (some x) t
 | some q, x :: t => one x && (bef q x && adj one bef (some x) t)
def prevA (A : List α) : Nat → Option α
 | 0 => none
 | n + 1 => A[n]?
theorem loop_adj {A : List α} {one : α → Bool} {bef : α → α → Bool} {fin : Bool} {body : (Int → Option Bool) → Int → Option Bool} (hA : A.length ≤ 9223372036854775807)
  (first : ∀ k a, A[0]? = some a → body k 0 = bif one a then k 1 else some false)
  (more : ∀ (i : Nat) k q a, A[i]? = some q → A[i + 1]? = some a → i + 1 < 9223372036854775807 → body k ((i + 1 : Nat) : Int) = bif one a then (bif bef q a then k ((i + 2 : Nat) : Int) else some false) else some false)
  (done : ∀ k, body k (A.length : Int) = some fin) : loop body 0 = some (adj one bef none A && fin) := by
 have := loop_at (L := A) (body := body) (fun i => adj one bef (prevA A i) (A.drop i) && fin) hA ?_ ?_
 ·exact this
 ·intro i k a ha hi hk
  rw [drop_cons ha]
  cases i with
  | zero =>
   have h1 := first k a ha
   have hp : prevA A 1 = some a := ha
   rw [hp] at hk
   show body k 0 = _
   rw [h1]
   simp only [prevA, adj]
   cases one a
   ·rfl
   ·exact hk
  | succ n =>
   obtain ⟨q, hq⟩ := get_some (L := A) (n := n) (by have := get_lt ha; omega)
   have h1 := more n k q a hq ha hi
   have hp : prevA A (n + 1 + 1) = some a := ha
   rw [hp] at hk
   rw [h1]
   simp only [prevA, hq, adj]
   cases one a
   ·rfl
   ·cases bef q a
    ·rfl
    ·exact hk
 ·intro k
  rw [done, List.drop_length]
  cases prevA A A.length <;> simp [adj]
end
end Go.Ab
set_option linter.unusedVariables false
set_option linter.unusedSimpArgs false
namespace Go.Ab
open Go.RowKit
theorem l00In_eq (a b c : Int) : F_spec_l00In a b c = some (decide (b ≤ a ∧ a ≤ c)) := by
 unfold F_spec_l00In
 by_cases h : b ≤ a <;> simp [h]
theorem within_eq (a b c : Int) : F_impl_within a b c = some (decide (b ≤ a ∧ a ≤ c)) := by
 unfold F_impl_within
 by_cases h : b ≤ a <;> simp [h]
end Go.Ab
set_option linter.unusedVariables false
set_option linter.unusedSimpArgs false
namespace Go.Ab
open Go.RowKit
def cut {α : Type} (c : α → Int) (A : List α) : Nat := (A.takeWhile fun x => decide (c x < 0)).length
end Go.Ab
set_option linter.unusedVariables false
set_option linter.unusedSimpArgs false
namespace Go.Ab
open Go.RowKit
def srtS (L : List Str) : Prop := List.Pairwise (fun x y : Str => x < y) L
theorem lt_ne {x y : Str} (h : x < y) : x ≠ y := fun e => by subst e; exact List.lt_irrefl _ h
theorem lt_of_le {x y : Str} (h : ¬ y < x) (hn : y ≠ x) : x < y := by
 rcases List.le_total x y with h1 | h1
 ·refine Classical.byContradiction fun h2 => hn ?_
  exact List.le_antisymm (List.not_lt.1 h2) (List.not_lt.1 h)
 ·refine Classical.byContradiction fun h2 => hn ?_
  exact List.le_antisymm h1 (List.not_lt.1 h)
theorem srt_uniq {L M : List Str} (hL : srtS L) (hM : srtS M) (h : ∀ x, x ∈ L ↔ x ∈ M) : L = M := by
 have hp : L.Perm M := (List.perm_ext_iff_of_nodup (hL.imp fun h => lt_ne h) (hM.imp fun h => lt_ne h)).2 h
 exact List.Perm.eq_of_pairwise (le := fun x y => x < y) (fun a b _ _ h1 h2 => absurd (List.lt_trans h1 h2) (List.lt_irrefl _)) hL hM hp
theorem srt_snoc {L : List Str} {x : Str} (h : srtS L) (hx : ∀ y ∈ L, y < x) : srtS (L ++ [x]) := by
 unfold srtS
 rw [List.pairwise_append]
 exact ⟨h, by simp, fun a ha b hb => by rw [List.mem_singleton.1 hb]; exact hx a ha⟩
theorem less_eq (x y : Str) : Op.bytesLess x y = decide (x < y) := Go.Proofs.bytesLess_eq x y
theorem arr_at {S : List Str} {m : Nat} {a : Str} (h : S[m]? = some a) : S.toArray[m]! = a := by
 have hl := get_lt h
 rw [List.getElem?_eq_getElem hl] at h
 cases h
 simp [hl]
theorem compact_srt {S : List Str} (hS : List.Pairwise (fun x y : Str => x ≤ y) S) : ∀ m, m ≤ S.length → srtS (Go.Lib.compactUpTo S.toArray m) ∧ (∀ y, y ∈ Go.Lib.compactUpTo S.toArray m ↔ y ∈ S.take m)
 | 0, _ => ⟨List.Pairwise.nil, fun y => by simp [Go.Lib.compactUpTo]⟩
 | m + 1, hm => by
  obtain ⟨h1, h2⟩ := compact_srt hS m (by omega)
  obtain ⟨a, ha⟩ := get_some (L := S) (n := m) (by omega)
  rw [Go.Lib.compactUpTo_succ, arr_at ha]
  have hmem : ∀ y, y ∈ S.take (m + 1) ↔ y ∈ S.take m ∨ y = a := fun y => by rw [take_succ ha, List.mem_append, List.mem_singleton]
  have hle : ∀ (i j : Nat) x y, i < j → S[i]? = some x → S[j]? = some y → x ≤ y := by
   intro i j x y hij hx hy
   have h3 := get_lt hx
   have h4 := get_lt hy
   have := List.pairwise_iff_getElem.1 hS i j h3 h4 hij
   rw [List.getElem?_eq_getElem h3] at hx
   rw [List.getElem?_eq_getElem h4] at hy
   cases hx; cases hy; exact this
  by_cases hk : Go.Lib.keeps S.toArray m = true
  ·rw [if_pos hk]
   refine ⟨srt_snoc h1 ?_, fun y => by rw [List.mem_append, List.mem_singleton, h2, hmem]⟩
   intro y hy
   rw [h2] at hy
   obtain ⟨j, hj⟩ := List.mem_iff_getElem?.1 hy
   rw [List.getElem?_take] at hj
   split at hj
   ·rename_i hjm
    have h0 : m ≠ 0 := by omega
    obtain ⟨b, hb⟩ := get_some (L := S) (n := m - 1) (by omega)
    have hne : a ≠ b := by
     have := of_decide_eq_true hk
     rcases this with h | h
     ·exact absurd h h0
     ·rw [arr_at ha, arr_at hb] at h; exact h
    have hba : b < a := lt_of_le (List.not_lt.2 (hle (m - 1) m b a (by omega) hb ha)) hne
    by_cases e : j = m - 1
    ·subst e; rw [hb] at hj; cases hj; exact hba
    ·have hyb := hle j (m - 1) y b (by omega) hj hb
     by_cases e2 : y = b
     ·rw [e2]; exact hba
     ·exact List.lt_trans (lt_of_le (List.not_lt.2 hyb) (fun e => e2 e.symm)) hba
   ·cases hj
  ·rw [if_neg hk, List.append_nil]
   refine ⟨h1, fun y => ?_⟩
   rw [h2, hmem]
   constructor
   ·exact .inl
   ·rintro (h | h)
    ·exact h
    ·have h0 : m ≠ 0 := fun e => hk (by simp [Go.Lib.keeps, e])
     obtain ⟨b, hb⟩ := get_some (L := S) (n := m - 1) (by omega)
     have : a = b := by
      refine Classical.byContradiction fun hne => hk ?_
      refine decide_eq_true (.inr ?_)
      rw [arr_at ha, arr_at hb]; exact hne
     rw [h, this]
     refine List.mem_iff_getElem?.2 ⟨m - 1, ?_⟩
     rw [List.getElem?_take, if_pos (by omega)]; exact hb
theorem sc_ex {β : Type} (L : List Str) (hl : L.length ≤ 1000000) (F : List Str → Option β) : ∃ R, ((F_sortS L).bind fun v => need (v.length = L.length) ((F_compactS v).bind F)) = F R ∧ srtS R ∧ (∀ y, y ∈ R ↔ y ∈ L) := by
 unfold F_sortS
 rw [need_true (by omega), Option.bind_some]
 generalize hS : L.mergeSort _ = S
 have hp : S.Perm L := hS ▸ List.mergeSort_perm _ _
 have hpw : List.Pairwise (fun x y : Str => x ≤ y) S := by
  rw [← hS]
  refine (List.pairwise_mergeSort ?_ ?_ L).imp fun h => of_decide_eq_true h
  ·intro a b c h1 h2
   exact decide_eq_true (List.le_trans (of_decide_eq_true h1) (of_decide_eq_true h2))
  ·intro a b
   rcases List.le_total a b with h | h
   ·simp [h]
   ·simp [h]
 have hlen := hp.length_eq
 obtain ⟨h1, h2⟩ := compact_srt hpw _ (Nat.le_refl _)
 refine ⟨_, ?_, h1, fun y => ?_⟩
 ·unfold F_compactS
  rw [need_true hlen, need_true (by omega), Option.bind_some]
 ·rw [h2, take_all (Nat.le_refl _)]
  exact hp.mem_iff
theorem loop_coll {α β R : Type} {A : List α} (g : α → Bool) (f : α → β) {r : R} {body : (Int × List β → Option R) → Int × List β → Option R} (hA : A.length ≤ 9223372036854775807)
  (more : ∀ (i : Nat) (B : List β) k a, A[i]? = some a → i < 9223372036854775807 → B.length ≤ i → i < A.length → body k ((i : Int), B) = bif g a then k (((i + 1 : Nat) : Int), B ++ [f a]) else k (((i + 1 : Nat) : Int), B))
  (done : ∀ k, body k ((A.length : Int), (A.filter g).map f) = some r) : loop body (0, []) = some r := by
 obtain ⟨q, e, hq⟩ := loop_ex (body := body) (s0 := ((0 : Int), ([] : List β))) (Q := fun q => q = r) (L := A)
  (fun i s => s.1 = (i : Int) ∧ s.2 = ((A.take i).filter g).map f) hA ⟨rfl, rfl⟩
  (by
   rintro i ⟨j, B⟩ k a ha hi ⟨rfl, hB⟩ hk
   dsimp only at hB
   have hl : B.length ≤ i := by
    rw [hB, List.length_map]
    have h1 : ((A.take i).filter g).length ≤ (A.take i).length := List.length_filter_le _ _
    have h2 : (A.take i).length ≤ i := by rw [List.length_take]; omega
    omega
   have hn : (A.take (i + 1)).filter g = (A.take i).filter g ++ (if g a = true then [a] else []) := by
    rw [take_succ ha, List.filter_append]
    congr 1
    cases hg : g a <;> simp [hg]
   rw [more i B k a ha hi hl (get_lt ha)]
   cases hg : g a
   ·simp only [hg, Bool.false_eq_true, if_false, List.append_nil] at hn
    exact hk _ ⟨rfl, by rw [hB, hn]⟩
   ·simp only [hg, if_true] at hn
    exact hk _ ⟨rfl, by rw [hB, hn]; simp⟩)
  (by
   rintro ⟨j, B⟩ k ⟨rfl, hB⟩
   dsimp only at hB
   rw [take_all (Nat.le_refl _)] at hB
   subst hB
   exact ⟨_, done k, rfl⟩)
 rw [e, hq]
end Go.Ab
set_option linter.unusedVariables false
set_option linter.unusedSimpArgs false
namespace Go.Ab
open Go.RowKit
theorem nif {R : Type} {b : Bool} {x y : R} : (bif !b then x else y) = bif b then y else x := by cases b <;> rfl
theorem int_pos' (n : Nat) : decide ((0 : Int) < ((n + 1 : Nat) : Int)) = true := decide_eq_true (by omega)
def cmpI (a b : Int) : Int := if a < b then -1 else if b < a then 1 else 0
def cmpT (a b : Str) : Int := if a < b then -1 else if a = b then 0 else 1
theorem cmpI_eq (a b : Int) : F_cmp_Compare_int64 a b = some (cmpI a b) := by
 unfold F_cmp_Compare_int64 F_cmp_isNaN_int64 cmpI
 simp only [ne_eq, not_true_eq_false, decide_false, Option.bind_some, bif_f, bif_dec]
 split
 ·rfl
 ·split <;> rfl
theorem cmpT_eq (a b : Str) : F_cmp_Compare_string a b = some (cmpT a b) := by
 unfold F_cmp_Compare_string F_cmp_isNaN_string cmpT
 simp only [ne_eq, not_true_eq_false, decide_false, Option.bind_some, bif_f, less_eq]
 by_cases h : a < b
 ·simp [h]
 ·by_cases h2 : a = b
  ·subst h2; simp [h]
  ·simp [h, h2]
def or3 (x y z : Int) : Int := if x ≠ 0 then x else if y ≠ 0 then y else z
theorem Or3_eq (x y z : Int) : F_cmp_Or_int [x, y, z] = some (or3 x y z) := by
 unfold F_cmp_Or_int
 have := loop_sfx (body := F_cmp_Or_int_l0 [x, y, z]) (L := [x, y, z]) (fun t => (t.find? (fun z => decide (z ≠ 0))).getD 0) (by simp) ?_ ?_
 ·rw [this]
  unfold or3
  by_cases h : x = 0 <;> by_cases h2 : y = 0 <;> by_cases h3 : z = 0 <;> simp [List.find?, h, h2, h3]
 ·intro i k a t ha hi hk
  simp only [F_cmp_Or_int_l0, int_lt (get_lt ha), bif_t, ix_get ha, Option.bind_some, w64_succ hi, bif_dec, hk]
  by_cases h : a = 0 <;> simp [List.find?, h]
 ·intro k
  simp only [F_cmp_Or_int_l0, int_lt_self, bif_f]
  rfl
def turnOk (t : TTurn) : Bool := nameOk t.1 && (decide (0 ≤ t.2.1 ∧ t.2.1 ≤ 10000) && decide (1 ≤ t.2.2 ∧ t.2.2 ≤ 10000))
def turnBef (a b : TTurn) : Bool := if a.2.1 ≠ b.2.1 then decide (a.2.1 < b.2.1) else if a.1 ≠ b.1 then decide (a.1 < b.1) else decide (a.2.2 < b.2.2)
theorem l23One_eq {t : TTurn} (o : OkTurn t) : F_spec_l23One t = some (turnOk t) := by
 unfold F_spec_l23One turnOk
 rw [l01Name_eq _ o.1, l00In_eq, l00In_eq]
 simp only [Option.bind_some]
 cases nameOk t.1 <;> cases decide (0 ≤ t.2.1 ∧ t.2.1 ≤ 10000) <;> rfl
theorem Tvalid_eq {t : TTurn} (o : OkTurn t) : F_impl_Turn_valid t = some (turnOk t) := by
 unfold F_impl_Turn_valid turnOk
 rw [IsName_eq _ o.1, within_eq, within_eq]
 simp only [Option.bind_some]
 cases nameOk t.1 <;> cases decide (0 ≤ t.2.1 ∧ t.2.1 ≤ 10000) <;> rfl
theorem l23Before_eq (a b : TTurn) : F_spec_l23Before a b = some (turnBef a b) := by
 unfold F_spec_l23Before turnBef
 simp only [bif_dec, less_eq]
 split
 ·rfl
 ·split <;> rfl
theorem compareT_bef (a b : TTurn) : ∃ c, F_impl_compareTurns a b = some c ∧ decide (0 ≤ c) = !turnBef a b := by
 refine ⟨or3 (cmpI a.2.1 b.2.1) (cmpT a.1 b.1) (cmpI a.2.2 b.2.2), ?_, ?_⟩
 ·unfold F_impl_compareTurns
  rw [cmpI_eq, cmpT_eq, cmpI_eq]
  simp only [Option.bind_some, Or3_eq]
 ·unfold or3 turnBef cmpI cmpT
  by_cases h1 : a.2.1 < b.2.1
  ·have : a.2.1 ≠ b.2.1 := by omega
   simp [h1, this]
  ·by_cases h2 : b.2.1 < a.2.1
   ·have : a.2.1 ≠ b.2.1 := by omega
    simp [h1, h2, this]
   ·have e : a.2.1 = b.2.1 := by omega
    simp only [e, Int.lt_irrefl, if_false, ne_eq, not_true_eq_false]
    by_cases h3 : a.1 = b.1
    ·have e3 : ¬ b.1 < b.1 := List.lt_irrefl _
     simp only [h3, e3, if_false, if_true, not_true_eq_false]
     by_cases h4 : a.2.2 < b.2.2
     ·simp [h4]
     ·by_cases h5 : b.2.2 < a.2.2 <;> simp [h4, h5]
    ·by_cases h4 : a.1 < b.1 <;> simp [h3, h4]
def turnsOk (L : List TTurn) : Bool := adj turnOk turnBef none L && decide ((L.length : Int) ≤ 24)
theorem l23Ok_eq {L : List TTurn} (oL : (OkL OkTurn) L) : F_spec_l23Ok L = some (turnsOk L) := by
 unfold F_spec_l23Ok turnsOk
 refine loop_adj oL.1 ?_ ?_ ?_
 ·intro k a ha
  have h0 : (0 : Int) = ((0 : Nat) : Int) := rfl
  rw [h0]
  simp only [F_spec_l23Ok_l0, int_lt (get_lt ha), bif_t, ix_get ha, Option.bind_some, l23One_eq (oL.2 a (get_mem ha)), nif]
  rfl
 ·intro i k q a hq ha hi
  simp only [F_spec_l23Ok_l0, int_lt (get_lt ha), bif_t, ix_get ha, Option.bind_some, l23One_eq (oL.2 a (get_mem ha)), nif, int_pos', w64_pred (show i < 9223372036854775807 by omega), w64_succ hi, ix_get hq, l23Before_eq]
 ·intro k; simp only [F_spec_l23Ok_l0, int_lt_self, bif_f]
theorem ValidTurns_eq {L : List TTurn} (oL : (OkL OkTurn) L) : F_impl_ValidTurns L = some (turnsOk L) := by
 have e : loop (F_impl_ValidTurns_l0 L) 0 = some (adj turnOk turnBef none L && true) := by
  refine loop_adj oL.1 ?_ ?_ ?_
  ·intro k a ha
   have h0 : (0 : Int) = ((0 : Nat) : Int) := rfl
   rw [h0]
   simp only [F_impl_ValidTurns_l0, int_lt (get_lt ha), bif_t, ix_get ha, Option.bind_some, Tvalid_eq (oL.2 a (get_mem ha)), nif]
   rfl
  ·intro i k q a hq ha hi
   obtain ⟨c, e, hc⟩ := compareT_bef q a
   simp only [F_impl_ValidTurns_l0, int_lt (get_lt ha), bif_t, ix_get ha, Option.bind_some, Tvalid_eq (oL.2 a (get_mem ha)), nif, int_pos', w64_pred (show i < 9223372036854775807 by omega), w64_succ hi, ix_get hq, e, hc]
  ·intro k; simp only [F_impl_ValidTurns_l0, int_lt_self, bif_f]
 unfold F_impl_ValidTurns turnsOk
 rw [e]
 by_cases h : (24 : Int) < L.length
 ·rw [decide_eq_true h, bif_t, decide_eq_false (by omega), Bool.and_false]
 ·rw [decide_eq_false h, bif_f, decide_eq_true (by omega)]
theorem adj_of {α : Type} {one : α → Bool} {bef : α → α → Bool} : ∀ {A : List α} {p : Option α}, (∀ x ∈ A, one x = true) → A.Pairwise (fun x y => bef x y = true) → (∀ q, p = some q → ∀ x ∈ A, bef q x = true) → adj one bef p A = true
 | [], p, _, _, _ => by cases p <;> rfl
 | a :: A, p, h1, h2, h3 => by
  rw [List.pairwise_cons] at h2
  have ih := adj_of (A := A) (p := some a) (fun x hx => h1 x (by simp [hx])) h2.2 (fun q hq x hx => by cases hq; exact h2.1 x hx)
  have ha := h1 a (by simp)
  cases p with
  | none => simp [adj, ha, ih]
  | some q => simp [adj, ha, ih, h3 q rfl a (by simp)]
theorem tb_iff (a b : TTurn) : turnBef a b = true ↔ a.2.1 < b.2.1 ∨ (a.2.1 = b.2.1 ∧ (a.1 < b.1 ∨ (a.1 = b.1 ∧ a.2.2 < b.2.2))) := by
 unfold turnBef
 by_cases h1 : a.2.1 = b.2.1
 ·by_cases h2 : a.1 = b.1
  ·have e3 : ¬ b.1 < b.1 := List.lt_irrefl _
   simp [h1, h2, e3]
  ·simp [h1, h2]
 ·simp [h1]
theorem tb_trans {a b c : TTurn} (h : turnBef a b = true) (k : turnBef b c = true) : turnBef a c = true := by
 rw [tb_iff] at *
 rcases h with h | ⟨h1, h⟩
 ·exact .inl (by rcases k with k | ⟨k, _⟩ <;> omega)
 ·rcases k with k | ⟨k1, k⟩
  ·exact .inl (by omega)
  ·refine .inr ⟨by omega, ?_⟩
   rcases h with h | ⟨h2, h⟩
   ·rcases k with k | ⟨k2, _⟩
    ·exact .inl (List.lt_trans h k)
    ·exact .inl (k2 ▸ h)
   ·rcases k with k | ⟨k2, k⟩
    ·exact .inl (h2 ▸ k)
    ·exact .inr ⟨h2.trans k2, by omega⟩
theorem tb_tot {a b : TTurn} (h : ¬ turnBef a b = true) (hn : a ≠ b) : turnBef b a = true := by
 rw [tb_iff] at h ⊢
 by_cases h1 : a.2.1 = b.2.1
 ·by_cases h2 : a.1 = b.1
  ·refine .inr ⟨h1.symm, .inr ⟨h2.symm, ?_⟩⟩
   have h3 : a.2.2 ≠ b.2.2 := fun e => hn (Prod.ext h2 (Prod.ext h1 e))
   have : ¬ a.2.2 < b.2.2 := fun k => h (.inr ⟨h1, .inr ⟨h2, k⟩⟩)
   omega
  ·exact .inr ⟨h1.symm, .inl (lt_of_le (fun k => h (.inr ⟨h1, .inl k⟩)) h2)⟩
 ·refine .inl ?_
  have : ¬ a.2.1 < b.2.1 := fun k => h (.inl k)
  omega
def srtT (L : List TTurn) : Prop := L.Pairwise fun x y => turnBef x y = true
theorem srtT_at {L : List TTurn} (h : srtT L) {i j : Nat} {x y : TTurn} (hij : i < j) (hx : L[i]? = some x) (hy : L[j]? = some y) : turnBef x y = true := by
 unfold srtT at h
 rw [List.pairwise_iff_getElem] at h
 have h1 := get_lt hx
 have h2 := get_lt hy
 have := h i j h1 h2 hij
 rw [List.getElem?_eq_getElem h1] at hx
 rw [List.getElem?_eq_getElem h2] at hy
 cases hx; cases hy; exact this
theorem ins_srt {L : List TTurn} (hs : srtT L) {n : Nat} {t : TTurn} (h1 : ∀ k x, L[k]? = some x → k < n → turnBef x t = true) (h2 : ∀ k x, L[k]? = some x → n ≤ k → turnBef t x = true) : srtT (L.take n ++ t :: L.drop n) := by
 have k1 : ∀ x ∈ L.take n, turnBef x t = true := by
  intro x hx
  obtain ⟨k, hk⟩ := List.mem_iff_getElem?.1 hx
  rw [List.getElem?_take] at hk
  split at hk
  ·exact h1 k x hk (by assumption)
  ·cases hk
 have k2 : ∀ x ∈ L.drop n, turnBef t x = true := by
  intro x hx
  obtain ⟨k, hk⟩ := List.mem_iff_getElem?.1 hx
  rw [List.getElem?_drop] at hk
  exact h2 _ x hk (by omega)
 unfold srtT
 rw [List.pairwise_append]
 refine ⟨hs.sublist (List.take_sublist _ _), List.pairwise_cons.2 ⟨k2, hs.sublist (List.drop_sublist _ _)⟩, ?_⟩
 intro x hx y hy
 rcases List.mem_cons.1 hy with h | h
 ·rw [h]; exact k1 x hx
 ·exact tb_trans (k1 x hx) (k2 y h)
theorem ins_mem {L : List TTurn} {n : Nat} {t x : TTurn} : x ∈ L.take n ++ t :: L.drop n ↔ x = t ∨ x ∈ L := by
 rw [List.mem_append, List.mem_cons]
 constructor
 ·rintro (h | h | h)
  ·exact .inr (List.mem_of_mem_take h)
  ·exact .inl h
  ·exact .inr (List.mem_of_mem_drop h)
 ·rintro (h | h)
  ·exact .inr (.inl h)
  ·rw [← List.take_append_drop n L, List.mem_append] at h
   rcases h with h | h
   ·exact .inl h
   ·exact .inr (.inr h)
theorem turnsOk_of {L : List TTurn} (hs : srtT L) (ho : ∀ t ∈ L, turnOk t = true) (hl : L.length ≤ 24) : turnsOk L = true := by
 unfold turnsOk
 rw [adj_of ho hs (fun q hq => by cases hq), decide_eq_true (by omega)]
 rfl
def cov (time : Int) (t : TTurn) : Bool := decide (t.2.1 ≤ time ∧ time ≤ t.2.1 + t.2.2 - 1)
def cnt (p : Nat → Bool) : Nat → Nat
 | 0 => 0
 | n + 1 => cnt p n + (if p n = true then 1 else 0)
end Go.Ab
set_option linter.unusedVariables false
set_option linter.unusedSimpArgs false
namespace Go.Ab
open Go.RowKit
def Src (N : Int) (s : TL00Src) : Prop := (∀ b ∈ s.1, 0 ≤ b ∧ b ≤ 255) ∧ 0 ≤ s.2.1 ∧ s.2.1 ≤ N
theorem Src.up {N M : Int} {s : TL00Src} (h : Src N s) (hm : N ≤ M) : Src M s := ⟨h.1, h.2.1, Int.le_trans h.2.2 hm⟩
theorem and255 (x : Int) : 0 ≤ bitAnd .u64 x 255 ∧ bitAnd .u64 x 255 ≤ 255 := by
 unfold bitAnd
 have h : (BitVec.ofInt (IntKind.bits .u64) x &&& BitVec.ofInt (IntKind.bits .u64) 255).toNat ≤ 255 := by
  rw [BitVec.toNat_and]
  exact Nat.le_trans Nat.and_le_right (by decide)
 rw [IntWalk.u64_in _ (by omega)]
 omega
theorem w64_and (x : Int) : 0 ≤ w64 (bitAnd .u64 x 255) ∧ w64 (bitAnd .u64 x 255) ≤ 255 := by
 have := and255 x
 rw [w64_id (by omega)]
 exact this
theorem next_ok {N : Int} (hN : N ≤ 1000000) {s : TL00Src} (h : Src N s) : ∃ s' x, F_spec_l00Src_next s = some (s', x) ∧ 0 ≤ x ∧ x ≤ 255 ∧ Src (N + 1) s' := by
 obtain ⟨c, a, z⟩ := s
 obtain ⟨h1, h2, h3⟩ := h
 dsimp only at h1 h2 h3
 have key : ∀ b : Int, 0 ≤ b → b ≤ 255 → ∃ s' x, F_spec_l00Src_next_j0 (c, a, z) b = some (s', x) ∧ 0 ≤ x ∧ x ≤ 255 ∧ Src (N + 1) s' := by
  intro b hb1 hb2
  unfold F_spec_l00Src_next_j0
  rw [bif_dec, w64_id (x := a + 1) (by omega)]
  split
  ·exact ⟨_, _, rfl, hb1, hb2, h1, by dsimp only; omega, by dsimp only; omega⟩
  ·rw [need_true (by decide)]
   exact ⟨_, _, rfl, (w64_and _).1, (w64_and _).2, h1, by dsimp only; omega, by dsimp only; omega⟩
 unfold F_spec_l00Src_next
 rw [bif_dec]
 split
 ·rename_i hlt
  dsimp only at hlt
  obtain ⟨b, hb⟩ := get_some (L := c) (n := a.toNat) (by omega)
  have hix : ix c a = some b := by
   have := ix_get hb
   rw [Int.toNat_of_nonneg h2] at this
   exact this
  dsimp only
  rw [hix, Option.bind_some]
  have := h1 b (get_mem hb)
  rw [w64_id (by omega)]
  exact key b this.1 this.2
 ·exact key 0 (by omega) (by omega)
theorem pick_ok {N n : Int} (hN : N ≤ 900000) (hn : 1 ≤ n ∧ n ≤ 200) {s : TL00Src} (h : Src N s) : ∃ s' x, F_spec_l00Src_pick s n = some (s', x) ∧ 0 ≤ x ∧ x < n ∧ Src (N + 1) s' := by
 unfold F_spec_l00Src_pick
 rw [bif_dec]
 split
 ·exact ⟨_, _, rfl, by omega, by omega, h.up (by omega)⟩
 ·rename_i hn1
  obtain ⟨s', x, e, hx1, hx2, hs⟩ := next_ok (by omega) h
  rw [e, Option.bind_some, bif_dec, if_neg (by omega)]
  unfold F_spec_l00Src_pick_j0
  rw [need_true (by omega)]
  exact ⟨_, _, rfl, Int.tmod_nonneg _ hx1, Int.tmod_lt_of_pos _ (by omega), hs⟩
theorem ix_in {α : Type} {L : List α} {x : Int} (h0 : 0 ≤ x) (h1 : x < L.length) : ∃ a, ix L x = some a ∧ a ∈ L := by
 obtain ⟨a, ha⟩ := get_some (L := L) (n := x.toNat) (by omega)
 refine ⟨a, ?_, get_mem ha⟩
 have := ix_get ha
 rw [Int.toNat_of_nonneg h0] at this
 exact this
theorem text_ok {N : Int} (hN : N ≤ 900000) {L : List (List UInt8)} (hL : 1 ≤ L.length ∧ L.length ≤ 200) {s : TL00Src} (h : Src N s) : ∃ s' t, F_spec_l00Src_text s L = some (s', t) ∧ t ∈ L ∧ Src (N + 1) s' := by
 unfold F_spec_l00Src_text
 obtain ⟨s', x, e, hx1, hx2, hs⟩ := pick_ok (n := (L.length : Int)) hN (by omega) h
 obtain ⟨t, ht, hm⟩ := ix_in hx1 hx2
 rw [e, Option.bind_some]
 dsimp only
 rw [ht, Option.bind_some]
 exact ⟨_, _, rfl, hm, hs⟩
theorem room_small {n b : Nat} (h : n ≤ 1000000) (hb : b ≤ 1000) : room n b := by
 refine ⟨by omega, ?_⟩
 have := Nat.mul_le_mul h hb
 omega
end Go.Ab
set_option linter.unusedVariables false
set_option linter.unusedSimpArgs false
namespace Go.Ab
open Go.RowKit
def plys : List (List UInt8) := [[100, 114, 111, 110, 101], [100, 114, 117, 109], [102, 108, 117, 116, 101]]
structure TW (n : Nat) (L : List TTurn) : Prop where
 srt : srtT L
 len : L.length ≤ n
 ok : ∀ t ∈ L, t.1 ∈ plys ∧ (0 ≤ t.2.1 ∧ t.2.1 ≤ 200) ∧ (1 ≤ t.2.2 ∧ t.2.2 ≤ 100)
theorem plys_ok : ∀ p ∈ plys, nameOk p = true ∧ p.length ≤ 5 := by decide
theorem TW.tok {n : Nat} {L : List TTurn} (h : TW n L) : ∀ t ∈ L, turnOk t = true := by
 intro t ht
 obtain ⟨h1, h2, h3⟩ := h.ok t ht
 unfold turnOk
 rw [(plys_ok t.1 h1).1, decide_eq_true (by omega), decide_eq_true (by omega)]
 rfl
theorem TW.okl {n : Nat} {L : List TTurn} (h : TW n L) (hn : n ≤ 1000) : (OkL OkTurn) L := by
 refine ⟨by have := h.len; omega, fun t ht => ?_⟩
 obtain ⟨h1, h2, h3⟩ := h.ok t ht
 have := (plys_ok t.1 h1).2
 refine ⟨by unfold OkS; omega, by unfold OkI; omega, by unfold OkI; omega⟩
theorem TW.valid {n : Nat} {L : List TTurn} (h : TW n L) (hn : n ≤ 24) : turnsOk L = true := turnsOk_of h.srt h.tok (by have := h.len; omega)
theorem TW.up {n m : Nat} {L : List TTurn} (h : TW n L) (hm : n ≤ m) : TW m L := ⟨h.srt, Nat.le_trans h.len hm, h.ok⟩
theorem TW.nil : TW 0 [] := ⟨List.Pairwise.nil, by simp, by simp⟩
theorem TW.ins {n : Nat} {L : List TTurn} (h : TW n L) {t : TTurn} (ht : t.1 ∈ plys ∧ (0 ≤ t.2.1 ∧ t.2.1 ≤ 200) ∧ (1 ≤ t.2.2 ∧ t.2.2 ≤ 100)) {k : Nat} (hs : srtT (L.take k ++ t :: L.drop k)) : TW (n + 1) (L.take k ++ t :: L.drop k) := by
 refine ⟨hs, ?_, fun x hx => ?_⟩
 ·have := h.len
  rw [List.length_append, List.length_cons, List.length_take, List.length_drop]
  omega
 ·rcases ins_mem.1 hx with h1 | h1
  ·rw [h1]; exact ht
  ·exact h.ok x h1
end Go.Ab
set_option linter.unusedVariables false
set_option linter.unusedSimpArgs false
namespace Go.Ab
open Go.RowKit
theorem sub_take {α : Type} {L : List α} {m : Nat} : sub L 0 (m : Int) = L.take m := by simp [sub]
theorem sub_dropA {α : Type} {L : List α} {m : Nat} : sub L (m : Int) (L.length : Int) = L.drop m := by
 unfold sub
 rw [Int.toNat_natCast, Int.toNat_natCast, List.take_length]
theorem put_j0 {L : List TTurn} {t : TTurn} {m : Nat} (hm : m ≤ L.length) (hl : L.length ≤ 1000) : F_spec_l23Put_j0 L t (m : Int) = some (L.take m ++ t :: L.drop m) := by
 unfold F_spec_l23Put_j0
 have h1 : (L.take m).length ≤ 1000 := by rw [List.length_take]; omega
 have h2 : (L.drop m).length ≤ 1000 := by rw [List.length_drop]; omega
 rw [need_true (by omega), sub_take, need_true (room_small (by omega) (by omega)), need_true (room_small (by simp only [List.length_singleton]; omega) (by omega)), need_true (by omega), sub_dropA, need_true (room_small (by rw [List.length_append, List.length_singleton]; omega) (by omega))]
 simp
theorem put_ok {n : Nat} (hn : n ≤ 100) {L : List TTurn} (h : TW n L) {t : TTurn} (ht : t.1 ∈ plys ∧ (0 ≤ t.2.1 ∧ t.2.1 ≤ 200) ∧ (1 ≤ t.2.2 ∧ t.2.2 ≤ 100)) (hm : t ∉ L) : ∃ R, F_spec_l23Put L t = some R ∧ (TW (n + 1) R ∧ ∀ x ∈ R, x = t ∨ x ∈ L) := by
 have hl := h.len
 unfold F_spec_l23Put
 refine loop_mu (fun s => ∃ m : Nat, s = (m : Int) ∧ m ≤ L.length ∧ ∀ k x, L[k]? = some x → m ≤ k → turnBef t x = true) (fun s => s.toNat) ⟨L.length, rfl, Nat.le_refl _, fun k x hx hk => by have := get_lt hx; omega⟩ (lt_lim (by omega)) ?_
 rintro _ K ⟨m, rfl, hm1, hm2⟩ hK
 have fin : (∀ k x, L[k]? = some x → k < m → turnBef x t = true) → ∃ r, F_spec_l23Put_j0 L t (m : Int) = some r ∧ (TW (n + 1) r ∧ ∀ x ∈ r, x = t ∨ x ∈ L) := fun h1 => ⟨_, put_j0 hm1 (by omega), h.ins ht (ins_srt h.srt h1 hm2), fun x hx => ins_mem.1 hx⟩
 unfold F_spec_l23Put_l1
 rw [bif_dec]
 split
 ·rename_i h0
  obtain ⟨q, rfl⟩ : ∃ q, m = q + 1 := ⟨m - 1, by omega⟩
  obtain ⟨y, hy⟩ := get_some (L := L) (n := q) (by omega)
  rw [w64_pred (by omega), ix_get hy, Option.bind_some, l23Before_eq, Option.bind_some]
  cases hb : turnBef t y
  ·rw [bif_f]
   refine fin fun k x hx hk => ?_
   have hyt : turnBef y t = true := tb_tot (by rw [hb]; decide) (fun e => hm (by rw [e]; exact get_mem hy))
   by_cases e : k = q
   ·subst e; rw [hx] at hy; cases hy; exact hyt
   ·exact tb_trans (srtT_at h.srt (by omega) hx hy) hyt
  ·rw [bif_t]
   refine hK _ ⟨q, rfl, by omega, fun k x hx hk => ?_⟩ (by omega)
   by_cases e : k = q
   ·subst e; rw [hx] at hy; cases hy; exact hb
   ·exact hm2 k x hx (by omega)
 ·exact fin fun k x hx hk => by omega
theorem player_ok {N : Int} (hN : N ≤ 900000) {s : TL00Src} (h : Src N s) : ∃ s' t, F_spec_l23Player s = some (s', t) ∧ t ∈ plys ∧ Src (N + 1) s' := by
 unfold F_spec_l23Player
 obtain ⟨s', t, e, ht, hs⟩ := text_ok (L := plys) hN (by decide) h
 have e : F_spec_l00Src_text s ([[100, 114, 111, 110, 101], [100, 114, 117, 109], [102, 108, 117, 116, 101]] : List (List UInt8)) = some (s', t) := e
 rw [e, Option.bind_some]
 exact ⟨_, _, rfl, ht, hs⟩
theorem dup_loop {L : List TTurn} (hl : L.length ≤ 1000) {u : TL00Src × List UInt8} {v w : TL00Src × Int} {t : TTurn} {k : Int} {K : Int × (List Int) × Int × Int × (List TTurn) → Option (TL00Src × (List TTurn))} {Q : TL00Src × List TTurn → Prop}
  (e1 : u.2 = t.1) (e2 : w64 (4 * v.2) = t.2.1) (e3 : w64 (4 + w64 (4 * w.2)) = t.2.2)
  (h1 : t ∈ L → ∃ r, K (w64 (k - 1), w.1.1, w.1.2.1, w.1.2.2, L) = some r ∧ Q r) (h2 : t ∉ L → ∃ r, ((F_spec_l23Put L t).bind fun R => K (w64 (k - 1), w.1.1, w.1.2.1, w.1.2.2, R)) = some r ∧ Q r) :
  ∃ r, loop (F_spec_l23Draw_l3 u v w k L K) (false, 0) = some r ∧ Q r := by
 refine loop_ex (L := L) (fun i s => s.2 = (i : Int) ∧ (s.1 = true ↔ t ∈ L.take i)) (by omega) ⟨rfl, by simp⟩ ?_ ?_
 ·rintro i ⟨b, _⟩ K2 a ha hi ⟨rfl, h3⟩ hK
  dsimp only at h3
  simp only [F_spec_l23Draw_l3, int_lt (get_lt ha), bif_t, ix_get ha, Option.bind_some, e1, e2, e3, w64_succ hi]
  have e4 : t ∈ L.take (i + 1) ↔ t ∈ L.take i ∨ t = a := by rw [take_succ ha, List.mem_append, List.mem_singleton]
  cases b
  ·rw [bif_f]
   refine hK _ ⟨rfl, ?_⟩
   dsimp only
   rw [e4]
   have h3 : ¬ t ∈ L.take i := fun h => by have := h3.2 h; cases this
   simp only [h3, false_or, Bool.and_eq_true, decide_eq_true_eq, and_true]
   constructor
   ·rintro ⟨k1, k2, k3⟩; exact Prod.ext k1.symm (Prod.ext k2.symm k3.symm)
   ·rintro rfl; exact ⟨rfl, rfl, rfl⟩
  ·rw [bif_t]
   refine hK _ ⟨rfl, ?_⟩
   dsimp only
   rw [e4]
   exact ⟨fun _ => .inl (h3.1 rfl), fun _ => rfl⟩
 ·rintro ⟨b, _⟩ K2 ⟨rfl, h3⟩
  dsimp only at h3
  rw [take_all (Nat.le_refl _)] at h3
  simp only [F_spec_l23Draw_l3, int_lt_self, bif_f]
  cases b
  ·rw [Bool.not_false, bif_t, e1, e2, e3]
   exact h2 (fun h => by have := h3.2 h; cases this)
  ·rw [Bool.not_true, bif_f]
   exact h1 (h3.1 rfl)
theorem turns_ok {c : List Int} (hc : ∀ b ∈ c, 0 ≤ b ∧ b ≤ 255) : ∃ L, F_spec_R8Turns c = some L ∧ TW 6 L ∧ ∀ t ∈ L, t.2.1 ≤ 76 ∧ t.2.2 ≤ 20 := by
 unfold F_spec_R8Turns F_spec_l23Draw
 have h0 : Src 0 (c, 0, 0) := ⟨hc, Int.le_refl _, Int.le_refl _⟩
 obtain ⟨s1, x, e1, hx1, hx2, h1⟩ := pick_ok (n := 7) (by omega) (by omega) h0
 rw [e1, Option.bind_some]
 obtain ⟨r, hr, hq⟩ := loop_mu (body := F_spec_l23Draw_l2) (s0 := (x, s1.1, s1.2.1, s1.2.2, []))
  (Q := fun r : TL00Src × List TTurn => TW 6 r.2 ∧ ∀ t ∈ r.2, t.2.1 ≤ 76 ∧ t.2.2 ≤ 20)
  (fun s => (0 ≤ s.1 ∧ s.1 ≤ x) ∧ Src (1 + 3 * (x - s.1)) (s.2.1, s.2.2.1, s.2.2.2.1) ∧ TW (x - s.1).toNat s.2.2.2.2 ∧ ∀ t ∈ s.2.2.2.2, t.2.1 ≤ 76 ∧ t.2.2 ≤ 20) (fun s => s.1.toNat)
  ⟨⟨hx1, Int.le_refl _⟩, h1.up (by dsimp only; omega), TW.nil.up (Nat.zero_le _), by simp⟩ (lt_lim (by dsimp only; omega))
  (by
   rintro ⟨k, c, a, z, L⟩ K ⟨q1, q2, q3, q4⟩ hK
   dsimp only at q1 q2 q3 q4
   simp only [F_spec_l23Draw_l2]
   rw [bif_dec]
   split
   ·rename_i hk
    obtain ⟨s2, p, e2, hp, h2⟩ := player_ok (by omega) q2
    obtain ⟨s3, y, e3, hy1, hy2, h3⟩ := pick_ok (n := 20) (by omega) (by omega) h2
    obtain ⟨s4, v, e4, hv1, hv2, h4⟩ := pick_ok (n := 5) (by omega) (by omega) h3
    have hl := q3.len
    rw [e2, Option.bind_some]
    dsimp only
    rw [e3, Option.bind_some]
    dsimp only
    rw [e4, Option.bind_some]
    refine dup_loop (t := (p, 4 * y, 4 + 4 * v)) (by omega) rfl (w64_id (by dsimp only; omega)) (by dsimp only; rw [w64_id (x := 4 * v) (by omega), w64_id (by omega)]) (fun _ => ?_) (fun hm => ?_)
    ·dsimp only
     rw [w64_id (by omega)]
     exact hK _ ⟨⟨by dsimp only; omega, by dsimp only; omega⟩, h4.up (by dsimp only; omega), q3.up (by dsimp only; omega), q4⟩ (by dsimp only; omega)
    ·obtain ⟨R, e5, hR, hR2⟩ := put_ok (by omega) q3 (t := (p, 4 * y, 4 + 4 * v)) ⟨hp, ⟨by dsimp only; omega, by dsimp only; omega⟩, ⟨by dsimp only; omega, by dsimp only; omega⟩⟩ hm
     dsimp only
     rw [e5, Option.bind_some, w64_id (by omega)]
     refine hK _ ⟨⟨by dsimp only; omega, by dsimp only; omega⟩, h4.up (by dsimp only; omega), hR.up (by dsimp only; omega), fun t ht => ?_⟩ (by dsimp only; omega)
     rcases hR2 t ht with rfl | ht
     ·exact ⟨by dsimp only; omega, by dsimp only; omega⟩
     ·exact q4 t ht
   ·exact ⟨_, rfl, q3.up (by omega), q4⟩)
 refine ⟨r.2, ?_, hq.1, hq.2⟩
 rw [hr, Option.bind_some]
end Go.Ab
set_option linter.unusedVariables false
set_option linter.unusedSimpArgs false
namespace Go.Ab
open Go.RowKit
structure TV (n : Nat) (L : List TTurn) : Prop where
 srt : srtT L
 len : L.length ≤ n
 ok : ∀ t ∈ L, t.1 ∈ plys ∧ (0 ≤ t.2.1 ∧ t.2.1 ≤ 5000) ∧ (1 ≤ t.2.2 ∧ t.2.2 ≤ 100)
theorem TW.tv {n : Nat} {L : List TTurn} (h : TW n L) : TV n L := ⟨h.srt, h.len, fun t ht => by obtain ⟨h1, h2, h3⟩ := h.ok t ht; exact ⟨h1, ⟨by omega, by omega⟩, h3⟩⟩
theorem TV.tok {n : Nat} {L : List TTurn} (h : TV n L) : ∀ t ∈ L, turnOk t = true := by
 intro t ht
 obtain ⟨h1, h2, h3⟩ := h.ok t ht
 unfold turnOk
 rw [(plys_ok t.1 h1).1, decide_eq_true (by omega), decide_eq_true (by omega)]
 rfl
theorem TV.okl {n : Nat} {L : List TTurn} (h : TV n L) (hn : n ≤ 1000) : (OkL OkTurn) L := by
 refine ⟨by have := h.len; omega, fun t ht => ?_⟩
 obtain ⟨h1, h2, h3⟩ := h.ok t ht
 have := (plys_ok t.1 h1).2
 refine ⟨by unfold OkS; omega, by unfold OkI; omega, by unfold OkI; omega⟩
theorem TV.valid {n : Nat} {L : List TTurn} (h : TV n L) (hn : n ≤ 24) : turnsOk L = true := turnsOk_of h.srt h.tok (by have := h.len; omega)
theorem playersV {n : Nat} {L : List TTurn} (h : TV n L) (hn : n ≤ 1000) (time : Int) : ∃ R, F_impl_playersAt L time = some R ∧ srtS R ∧ ∀ y, y ∈ R ↔ ∃ t ∈ L, cov time t = true ∧ t.1 = y := by
 have hl := h.len
 obtain ⟨S, q1, q2, q3⟩ := sc_ex ((L.filter (cov time)).map (·.1)) (by rw [List.length_map]; exact Nat.le_trans (List.length_filter_le _ _) (by omega)) (some : List Str → Option (List Str))
 refine ⟨S, ?_, q2, fun y => ?_⟩
 ·unfold F_impl_playersAt
  refine loop_coll (A := L) (cov time) (·.1) (by omega) ?_ ?_
  ·intro i B k a ha hi hB hlt
   obtain ⟨_, o2, o3⟩ := h.ok a (get_mem ha)
   simp only [F_impl_playersAt_l0, int_lt (get_lt ha), bif_t, ix_get ha, Option.bind_some, F_impl_Turn_end, within_eq, w64_succ hi]
   rw [w64_id (x := a.2.1 + a.2.2) (by omega), w64_id (x := a.2.1 + a.2.2 - 1) (by omega), need_true (room_small (by simp only [List.length_singleton]; omega) (by omega))]
   rfl
  ·intro k
   simp only [F_impl_playersAt_l0, int_lt_self, bif_f]
   exact q1
 ·rw [q3, List.mem_map]
  constructor
  ·rintro ⟨t, ht, e⟩
   obtain ⟨h1, h2⟩ := List.mem_filter.1 ht
   exact ⟨t, h1, h2, e⟩
  ·rintro ⟨t, h1, h2, e⟩
   exact ⟨t, List.mem_filter.2 ⟨h1, h2⟩, e⟩
theorem PlayersV {n : Nat} {L : List TTurn} (h : TV n L) (hn : n ≤ 24) {time : Int} (ht : 0 ≤ time ∧ time ≤ 20000) {R : List Str} (hR : F_impl_playersAt L time = some R) : F_impl_PlayersAt L time = some (R, 0) := by
 unfold F_impl_PlayersAt
 rw [ValidTurns_eq (h.okl (by omega)), h.valid hn, Option.bind_some, Bool.not_true, bif_f, within_eq, Option.bind_some, decide_eq_true ht, Bool.not_true, bif_f, hR, Option.bind_some]
def chn : Int → List TTurn → Prop
 | _, [] => True
 | s, t :: L => t.2.1 = s ∧ (t.1 ∈ plys ∧ 1 ≤ t.2.2 ∧ t.2.2 ≤ 100) ∧ chn (s + t.2.2) L
def totT : List TTurn → Int
 | [] => 0
 | t :: L => t.2.2 + totT L
theorem chn_app : ∀ {L M : List TTurn} {s : Int}, chn s L → chn (s + totT L) M → chn s (L ++ M)
 | [], M, s, _, h => by simpa [totT] using h
 | t :: L, M, s, ⟨h1, h2, h3⟩, h => ⟨h1, h2, chn_app h3 (by simp only [totT] at h; rw [Int.add_assoc]; exact h)⟩
theorem totT_app : ∀ (L M : List TTurn), totT (L ++ M) = totT L + totT M
 | [], M => by simp [totT]
 | t :: L, M => by simp only [List.cons_append, totT, totT_app L M]; omega
theorem chn_ge : ∀ {L : List TTurn} {s : Int}, chn s L → ∀ b ∈ L, s ≤ b.2.1
 | t :: L, s, ⟨h1, h2, h3⟩, b, hb => by
  rcases List.mem_cons.1 hb with rfl | hb
  ·omega
  ·have := chn_ge h3 b hb
   omega
theorem chn_at : ∀ {L : List TTurn} {s : Int}, chn s L → ∀ {i : Nat} {a : TTurn}, L[i]? = some a → a.2.1 = s + totT (L.take i)
 | t :: L, s, ⟨h1, h2, h3⟩, 0, a, ha => by
  simp at ha; subst ha
  simp [totT, h1]
 | t :: L, s, ⟨h1, h2, h3⟩, i + 1, a, ha => by
  simp at ha
  rw [chn_at h3 ha, List.take_succ_cons]
  simp only [totT]
  omega
theorem chn_lt : ∀ {L : List TTurn} {s : Int}, chn s L → ∀ {i k : Nat} {a b : TTurn}, i < k → L[i]? = some a → L[k]? = some b → a.2.1 + a.2.2 ≤ b.2.1
 | t :: L, s, ⟨h1, h2, h3⟩, 0, k + 1, a, b, _, ha, hb => by
  simp at ha hb; subst ha
  have := chn_ge h3 b (get_mem hb)
  omega
 | t :: L, s, ⟨h1, h2, h3⟩, i + 1, k + 1, a, b, hik, ha, hb => by
  simp at ha hb
  exact chn_lt h3 (by omega) ha hb
theorem chn_ok : ∀ {L : List TTurn} {s : Int}, chn s L → ∀ t ∈ L, t.1 ∈ plys ∧ 1 ≤ t.2.2 ∧ t.2.2 ≤ 100
 | t :: L, s, ⟨h1, h2, h3⟩, b, hb => by
  rcases List.mem_cons.1 hb with rfl | hb
  ·exact h2
  ·exact chn_ok h3 b hb
theorem chn_srt {L : List TTurn} {s : Int} (h : chn s L) : srtT L := by
 unfold srtT
 rw [List.pairwise_iff_getElem]
 intro i j hi hj hij
 have ha := List.getElem?_eq_getElem hi
 have hb := List.getElem?_eq_getElem hj
 have h1 := chn_lt h hij ha hb
 have h2 := chn_ok h _ (get_mem ha)
 rw [tb_iff]
 left
 omega
theorem chn_le : ∀ {L : List TTurn} {s : Int}, chn s L → ∀ t ∈ L, t.2.1 + t.2.2 ≤ s + totT L
 | t :: L, s, ⟨h1, h2, h3⟩, b, hb => by
  have h4 : ∀ {L : List TTurn} {s : Int}, chn s L → 0 ≤ totT L := by
   intro L
   induction L with
   | nil => intro s _; exact Int.le_refl _
   | cons t L ih => rintro s ⟨_, h2, h3⟩; have := ih h3; simp only [totT]; omega
  rcases List.mem_cons.1 hb with rfl | hb
  ·have := h4 h3; simp only [totT]; omega
  ·have := chn_le h3 b hb; simp only [totT]; omega
theorem chn_tv {L : List TTurn} {s : Int} (h : chn s L) (hs : 0 ≤ s) (ht : s + totT L ≤ 5000) (hl : L.length ≤ 24) : TV 24 L := by
 refine ⟨chn_srt h, hl, fun t hm => ?_⟩
 obtain ⟨h1, h2, h3⟩ := chn_ok h t hm
 have h4 := chn_ge h t hm
 have h5 := chn_le h t hm
 exact ⟨h1, ⟨by omega, by omega⟩, h2, h3⟩
theorem chn_alone {L : List TTurn} {s : Int} (h : chn s L) (hv : TV 24 L) {i : Nat} {a : TTurn} (ha : L[i]? = some a) : F_impl_PlayersAt L a.2.1 = some ([a.1], 0) := by
 obtain ⟨R, eR, hs, hR⟩ := playersV hv (by omega) a.2.1
 obtain ⟨o1, o2, o3⟩ := hv.ok a (get_mem ha)
 have : R = [a.1] := srt_uniq hs (List.pairwise_singleton _ _) fun y => by
  rw [hR, List.mem_singleton]
  constructor
  ·rintro ⟨t, ht, hc, e⟩
   obtain ⟨k, hk⟩ := List.mem_iff_getElem?.1 ht
   have hc := of_decide_eq_true hc
   rcases Nat.lt_trichotomy i k with hik | hik | hik
   ·have := chn_lt h hik ha hk
    have := chn_ok h t ht
    omega
   ·subst hik; rw [ha] at hk; cases hk; exact e.symm
   ·have := chn_lt h hik hk ha
    omega
  ·rintro rfl
   exact ⟨a, get_mem ha, decide_eq_true (by omega), rfl⟩
 subst this
 exact PlayersV hv (by omega) (by omega) eR
end Go.Ab
set_option linter.unusedVariables false
set_option linter.unusedSimpArgs false
namespace Go.Ab
open Go.RowKit
open Go.Lib (itoa decDigits)
theorem dig_len : ∀ (k u : Nat), u < 10 ^ (k + 1) → (decDigits u).length ≤ k + 1
 | 0, u, h => by rw [decDigits, dif_pos (by simpa using h)]; simp
 | k + 1, u, h => by
  rw [decDigits]
  split
  ·simp
  ·have := dig_len k (u / 10) (by rw [Nat.pow_succ] at h; omega)
   rw [List.length_append, List.length_singleton]; omega
end Go.Ab
set_option linter.unusedVariables false
set_option linter.unusedSimpArgs false
namespace Go.Ab
open Go.RowKit
open Go.Lib (itoa decDigits)
def dgt (c : UInt8) : Bool := decide (48 ≤ c.toNat ∧ c.toNat ≤ 57)
def val1 (a : Nat) (c : UInt8) : Nat := a * 10 + (c.toNat - 48)
def val (d : List UInt8) : Nat := d.foldl val1 0
theorem val_snoc (d : List UInt8) (c : UInt8) : val (d ++ [c]) = val d * 10 + (c.toNat - 48) := by unfold val; rw [List.foldl_append]; rfl
theorem byte_at {k : Nat} (h : k < 10) : (UInt8.ofNat (48 + k)).toNat = 48 + k := by
 rw [UInt8.toNat_ofNat']; omega
theorem head_app {a b : List UInt8} (h : a ≠ []) : (a ++ b).head? = a.head? := by
 cases a with
 | nil => exact absurd rfl h
 | cons => rfl
theorem dig_val (u : Nat) : val (decDigits u) = u ∧ (decDigits u).all dgt = true ∧ decDigits u ≠ [] ∧ (u ≠ 0 → (decDigits u).head? ≠ some 48) := by
 induction u using Nat.strongRecOn with
 | _ u ih =>
  rw [decDigits]
  by_cases h : u < 10
  ·rw [dif_pos h]
   have hb := byte_at h
   refine ⟨?_, ?_, by simp, ?_⟩
   ·show 0 * 10 + ((UInt8.ofNat (48 + u)).toNat - 48) = u; omega
   ·simp only [List.all_cons, List.all_nil, Bool.and_true, dgt]; exact decide_eq_true (by omega)
   ·intro hu e
    simp only [List.head?_cons, Option.some.injEq] at e
    rw [e] at hb
    have : (48 : UInt8).toNat = 48 := rfl
    omega
  ·rw [dif_neg h]
   obtain ⟨h1, h2, h3, h4⟩ := ih (u / 10) (by omega)
   have hb := byte_at (k := u % 10) (by omega)
   refine ⟨?_, ?_, by simp, ?_⟩
   ·rw [val_snoc, h1, hb]; omega
   ·rw [List.all_append, h2, Bool.true_and]
    simp only [List.all_cons, List.all_nil, Bool.and_true, dgt]; exact decide_eq_true (by omega)
   ·intro _
    rw [head_app h3]
    exact h4 (by omega)
theorem val_lt (d : List UInt8) : d.all dgt = true → ∀ a : Nat, d.foldl val1 a < (a + 1) * 10 ^ d.length := by
 induction d with
 | nil => intro _ a; simp
 | cons c d ih =>
  intro ha a
  rw [List.all_cons, Bool.and_eq_true] at ha
  have hc := of_decide_eq_true ha.1
  have h1 := ih ha.2 (val1 a c)
  have h2 : (val1 a c + 1) * 10 ^ d.length ≤ (a + 1) * 10 * 10 ^ d.length := Nat.mul_le_mul_right _ (by unfold val1; omega)
  rw [List.length_cons, Nat.pow_succ, Nat.mul_comm (10 ^ d.length) 10, ← Nat.mul_assoc]
  exact Nat.lt_of_lt_of_le h1 h2
theorem parse_dig (M : Nat) (hM : 10 ^ 18 ≤ M) : ∀ (d : List UInt8) (a : Nat), d.all dgt = true → (a + 1) * 10 ^ d.length ≤ 10 ^ 18 → Go.Lib.parseUintM M a d = .ok (d.foldl val1 a)
 | [], a, _, _ => rfl
 | c :: d, a, ha, hb => by
  rw [List.all_cons, Bool.and_eq_true] at ha
  have hc := of_decide_eq_true ha.1
  have hpow : 1 ≤ 10 ^ d.length := Nat.one_le_pow _ _ (by decide)
  rw [List.length_cons, Nat.pow_succ, Nat.mul_comm (10 ^ d.length) 10, ← Nat.mul_assoc] at hb
  have hb1 : (a + 1) * 10 * 1 ≤ (a + 1) * 10 * 10 ^ d.length := Nat.mul_le_mul_left _ hpow
  have h2 : (val1 a c + 1) * 10 ^ d.length ≤ (a + 1) * 10 * 10 ^ d.length := Nat.mul_le_mul_right _ (by unfold val1; omega)
  rw [Go.Lib.parseUintM, if_pos hc, if_neg (by omega), if_neg (by omega)]
  exact parse_dig M hM d (val1 a c) ha.2 (Nat.le_trans h2 hb)
def isNum (s : List UInt8) (v : Int) : Prop := s = itoa v ∧ (decDigits v.natAbs).length ≤ 18
theorem itoa_abs (v : Int) : itoa v = if v < 0 then 45 :: decDigits v.natAbs else decDigits v.natAbs := by
 unfold itoa
 split
 ·rfl
 ·rw [show v.toNat = v.natAbs by omega]
theorem dig_head (u : Nat) : ∃ c t, decDigits u = c :: t ∧ dgt c = true := by
 obtain ⟨_, h2, h3, _⟩ := dig_val u
 cases h : decDigits u with
 | nil => exact absurd h h3
 | cons c t =>
  rw [h, List.all_cons, Bool.and_eq_true] at h2
  exact ⟨c, t, rfl, h2.1⟩
theorem num_small {v : Int} (h : (decDigits v.natAbs).length ≤ 18) : v.natAbs < 10 ^ 18 := by
 obtain ⟨h1, h2, _, _⟩ := dig_val v.natAbs
 have := val_lt (decDigits v.natAbs) h2 0
 have e : (decDigits v.natAbs).foldl val1 0 = v.natAbs := h1
 rw [e, Nat.zero_add, Nat.one_mul] at this
 exact Nat.lt_of_lt_of_le this (Nat.pow_le_pow_right (by decide) h)
theorem trim_itoa (v : Int) : Go.Lib.trimPrefix (itoa v) [45] = decDigits v.natAbs := by
 rw [itoa_abs]
 unfold Go.Lib.trimPrefix Go.Lib.hasPrefix
 split
 ·simp
 ·obtain ⟨c, t, e, hc⟩ := dig_head v.natAbs
  rw [e]
  have : c ≠ 45 := fun e => by rw [e] at hc; exact absurd hc (by decide)
  simp [List.isPrefixOf, this, Ne.symm this]
theorem parse_itoa {v : Int} (h : (decDigits v.natAbs).length ≤ 18) : Go.Lib.parseIntB 64 (itoa v) = .ok v := by
 obtain ⟨h1, h2, h3, _⟩ := dig_val v.natAbs
 have hs := num_small h
 obtain ⟨c, t, e, hc⟩ := dig_head v.natAbs
 have hc' := of_decide_eq_true hc
 have hp : Go.Lib.parseUintB 64 (decDigits v.natAbs) = .ok v.natAbs := by
  unfold Go.Lib.parseUintB
  rw [if_neg h3, parse_dig _ (by decide) _ 0 h2 (by rw [Nat.zero_add, Nat.one_mul]; exact Nat.pow_le_pow_right (by decide) h)]
  exact congrArg _ h1
 rw [itoa_abs]
 split
 ·rename_i hv
  unfold Go.Lib.parseIntB
  dsimp only
  have e45 : (45 : UInt8).toNat = 45 := rfl
  rw [if_pos (Or.inr e45), hp]
  dsimp only
  rw [if_neg (by simp [e45]), if_neg (by rintro ⟨_, h⟩; omega), if_pos e45]
  congr 1; omega
 ·rename_i hv
  unfold Go.Lib.parseIntB
  rw [e]
  dsimp only
  rw [e] at hp
  rw [if_neg (by omega), hp]
  dsimp only
  have : ¬ c.toNat = 45 := by omega
  rw [if_neg (by rintro ⟨_, h⟩; omega), if_neg (by rintro ⟨h, _⟩; exact this h), if_neg this]
  congr 1; omega
theorem readDec_num {s : List UInt8} {v : Int} (h : isNum s v) : readDec s = (v, true) := by
 obtain ⟨rfl, h⟩ := h
 unfold readDec
 rw [parse_itoa h]
 dsimp only
 rw [trim_itoa, if_neg (by simp; omega)]
end Go.Ab
set_option linter.unusedVariables false
set_option linter.unusedSimpArgs false
namespace Go.Ab
open Go.RowKit
def ahead (p : List UInt8) : List (List UInt8) → List (List UInt8)
 | h :: t => (p ++ h) :: t
 | [] => [p]
theorem index_one (c x : UInt8) (s : List UInt8) : Go.Lib.index (x :: s) [c] = if x = c then 0 else if Go.Lib.index s [c] = -1 then -1 else Go.Lib.index s [c] + 1 := by
 simp only [Go.Lib.index, List.isPrefixOf, Bool.and_true, beq_iff_eq]
 by_cases h : x = c
 ·subst h; simp
 ·simp [h, show ¬ c = x from fun e => h e.symm]
def cutA (c : UInt8) (s : List UInt8) : List UInt8 × List UInt8 × Bool := (s.takeWhile (fun x => !decide (x = c)), (s.dropWhile (fun x => !decide (x = c))).tail, decide (c ∈ s))
theorem cut_eq (c : UInt8) : ∀ s : List UInt8, Go.Lib.cut s [c] = cutA c s
 | [] => by simp [Go.Lib.cut, cutA, Go.Lib.index]
 | x :: s => by
  have ih := cut_eq c s
  have hge := Go.Lib.index_ge s [c]
  simp only [Go.Lib.cut, cutA, index_one] at ih ⊢
  by_cases h : x = c
  ·subst h; simp
  ·have hcx : c ≠ x := fun e => h e.symm
   simp only [h, if_false] at ih ⊢
   by_cases h2 : Go.Lib.index s [c] = -1
   ·simp only [h2, if_true] at ih ⊢
    simp only [show ¬ ((0 : Int) ≤ -1) by decide, if_false, Prod.mk.injEq] at ih ⊢
    obtain ⟨i1, i2, i3⟩ := ih
    have i3' : c ∉ s := by simpa using i3.symm
    simp only [List.takeWhile_cons, List.dropWhile_cons, h, ← i1, ← i2, decide_false, Bool.not_false, if_true, true_and]
    simp [hcx, i3']
   ·have e1 : (0 : Int) ≤ Go.Lib.index s [c] + 1 := by omega
    have e0 : (0 : Int) ≤ Go.Lib.index s [c] := by omega
    have e2 : (Go.Lib.index s [c] + 1).toNat = (Go.Lib.index s [c]).toNat + 1 := by omega
    simp only [h2, if_false, e1, e2, e0, if_true, Prod.mk.injEq] at ih ⊢
    obtain ⟨i1, i2, i3⟩ := ih
    have i3' : c ∈ s := by simpa using i3.symm
    simp only [List.takeWhile_cons, List.dropWhile_cons, h, ← i1, ← i2, decide_false, Bool.not_false, if_true]
    simp [hcx, i3', Nat.add_right_comm]
theorem F_cut_eq {s : List UInt8} (c : UInt8) (h : s.length < 4294967281) : F_cut s [c] = some (cutA c s) := by
 unfold F_cut
 rw [need_true h, cut_eq]
end Go.Ab
set_option linter.unusedVariables false
set_option linter.unusedSimpArgs false
namespace Go.Ab
open Go.RowKit
open Go.Lib (itoa decDigits)
theorem cutA_app {c : UInt8} {p r : List UInt8} (h : c ∉ p) : cutA c (p ++ c :: r) = (p, r, true) := by
 unfold cutA
 have h1 : ∀ x ∈ p, (!decide (x = c)) = true := by
  intro x hx
  have : x ≠ c := fun e => h (e ▸ hx)
  simp [this]
 rw [List.takeWhile_append_of_pos h1, List.dropWhile_append_of_pos h1]
 simp
theorem itoa_no {n : Int} (h : 0 ≤ n) {c : UInt8} (hc : dgt c = false) : c ∉ itoa n := by
 rw [itoa_abs, if_neg (by omega)]
 intro hm
 have := (dig_val n.natAbs).2.1
 rw [List.all_eq_true] at this
 have := this c hm
 rw [hc] at this
 cases this
theorem itoa_five {n : Int} (h : 0 ≤ n ∧ n ≤ 10000) : (itoa n).length ≤ 5 := by
 rw [itoa_abs, if_neg (by omega)]
 exact dig_len 4 n.natAbs (by omega)
theorem itoa_read {n : Int} (h : 0 ≤ n ∧ n ≤ 10000) : readDec (itoa n) = (n, true) := readDec_num ⟨rfl, by have := dig_len 4 n.natAbs (by omega); omega⟩
theorem Decimal_eq {n : Int} (h : -9223372036854775808 ≤ n ∧ n ≤ 9223372036854775807) : F_impl_Decimal n = some (itoa n) := by
 unfold F_impl_Decimal F_formatInt
 rw [need_true ⟨by decide, h.1, h.2⟩]; rfl
end Go.Ab
set_option linter.unusedVariables false
set_option linter.unusedSimpArgs false
namespace Go.Ab
open Go.RowKit
open Go.Lib (itoa decDigits)
theorem room24' {n : Nat} (h : n ≤ 1000001) : room n 24 := ⟨by omega, by omega⟩
def cl (L : List TTurn) (i k : Nat) : List (List Int) := match L[i]?, L[k]? with
 | some a, some b => if a.1 = b.1 ∧ b.2.1 < w64 (a.2.1 + a.2.2) then [[(i : Int), (k : Int)]] else []
 | _, _ => []
def rowC (L : List TTurn) (i j : Nat) : List (List Int) := (List.range j).flatMap fun q => cl L i (i + 1 + q)
def allC (L : List TTurn) (m : Nat) : List (List Int) := (List.range m).flatMap fun i => rowC L i (L.length - (i + 1))
theorem cl_len (L : List TTurn) (i k : Nat) : (cl L i k).length ≤ 1 := by
 unfold cl
 split
 ·split <;> simp
 ·simp
theorem rowC_succ (L : List TTurn) (i j : Nat) : rowC L i (j + 1) = rowC L i j ++ cl L i (i + 1 + j) := by
 unfold rowC
 rw [List.range_succ, List.flatMap_append]; simp
theorem allC_succ (L : List TTurn) (m : Nat) : allC L (m + 1) = allC L m ++ rowC L m (L.length - (m + 1)) := by
 unfold allC
 rw [List.range_succ, List.flatMap_append]; simp
theorem rowC_len (L : List TTurn) (i : Nat) : ∀ j, (rowC L i j).length ≤ j
 | 0 => by simp [rowC]
 | j + 1 => by
  rw [rowC_succ, List.length_append]
  have := rowC_len L i j
  have := cl_len L i (i + 1 + j)
  omega
theorem allC_len (L : List TTurn) : ∀ m, (allC L m).length ≤ m * L.length
 | 0 => by simp [allC]
 | m + 1 => by
  rw [allC_succ, List.length_append, Nat.add_mul, Nat.one_mul]
  have := allC_len L m
  have := rowC_len L m (L.length - (m + 1))
  omega
theorem clash_loop {L : List TTurn} (hl : L.length ≤ 1000) {body2 : (Int × List (List Int) → Option (List (List Int) × Int)) → Int × List (List Int) → Option (List (List Int) × Int)}
  {body3 : Int → (Int × List (List Int) → Option (List (List Int) × Int)) → (Int × List (List Int) → Option (List (List Int) × Int)) → Int × List (List Int) → Option (List (List Int) × Int)}
  (h2 : ∀ (i : Nat) a acc k6, L[i]? = some a → body2 k6 ((i : Int), acc) = loop (body3 (i : Int) k6) (((i + 1 : Nat) : Int), acc))
  (e2 : ∀ acc k, body2 k ((L.length : Int), acc) = some (acc, 0))
  (h3 : ∀ (i k : Nat) a b acc k6 k7, L[i]? = some a → L[k]? = some b → acc.length ≤ 1000000 → body3 (i : Int) k6 k7 ((k : Int), acc) = k7 (((k + 1 : Nat) : Int), acc ++ cl L i k))
  (e3 : ∀ (i : Nat) acc k6 k7, i < L.length → body3 (i : Int) k6 k7 ((L.length : Int), acc) = k6 (((i + 1 : Nat) : Int), acc)) : loop body2 (0, []) = some (allC L L.length, 0) := by
 suffices H : ∃ r, loop body2 (0, []) = some r ∧ r = (allC L L.length, (0 : Int)) by
  obtain ⟨r, e, hr⟩ := H
  rw [e, hr]
 refine loop_ex (L := L) (fun i s => s.1 = (i : Int) ∧ s.2 = allC L i) (by omega) ⟨rfl, by simp [allC]⟩ ?_ ?_
 ·rintro i ⟨_, acc⟩ K a ha hi ⟨rfl, hacc⟩ hK
  dsimp only at hacc
  have hlt := get_lt ha
  rw [h2 i a acc K ha]
  refine loop_ex (L := List.range (L.length - (i + 1))) (fun j s => s.1 = ((i + 1 + j : Nat) : Int) ∧ s.2 = allC L i ++ rowC L i j) (by rw [List.length_range]; omega) ⟨rfl, by simp [rowC, hacc]⟩ ?_ ?_
  ·rintro j ⟨_, ac⟩ K7 x hx hj ⟨rfl, hac⟩ hK7
   dsimp only at hac
   have hjl := get_lt hx
   rw [List.length_range] at hjl
   obtain ⟨b, hb⟩ := get_some (L := L) (n := i + 1 + j) (by omega)
   have h1 := allC_len L i
   have h4 := rowC_len L i j
   have h5 : i * L.length ≤ 999 * 1000 := Nat.mul_le_mul (by omega) hl
   rw [h3 i (i + 1 + j) a b ac K K7 ha hb (by rw [hac, List.length_append]; omega)]
   exact hK7 _ ⟨rfl, by dsimp only; rw [hac, rowC_succ, List.append_assoc]⟩
  ·rintro ⟨_, ac⟩ K7 ⟨rfl, hac⟩
   dsimp only at hac
   rw [List.length_range] at hac ⊢
   have e : i + 1 + (L.length - (i + 1)) = L.length := by omega
   rw [e, e3 i ac K K7 hlt]
   exact hK _ ⟨rfl, by dsimp only; rw [hac, allC_succ]⟩
 ·rintro ⟨_, acc⟩ K ⟨rfl, hacc⟩
  dsimp only at hacc
  rw [e2]
  exact ⟨_, rfl, by rw [hacc]⟩
theorem cl_some {L : List TTurn} {i k : Nat} {a b : TTurn} (ha : L[i]? = some a) (hb : L[k]? = some b) : cl L i k = if a.1 = b.1 ∧ b.2.1 < w64 (a.2.1 + a.2.2) then [[(i : Int), (k : Int)]] else [] := by
 unfold cl; rw [ha, hb]
theorem iClash {L : List TTurn} (hl : L.length ≤ 1000) (o : (OkL OkTurn) L) (hT : turnsOk L = true) : F_impl_ClashesOf L = some (allC L L.length, 0) := by
 unfold F_impl_ClashesOf
 rw [ValidTurns_eq o, hT, Option.bind_some, Bool.not_true, bif_f]
 refine clash_loop (body3 := fun i => F_impl_ClashesOf_l3 L (L[i.toNat]?.getD ([], 0, 0)) i) hl ?_ ?_ ?_ ?_
 ·intro i a acc k6 ha
  simp only [F_impl_ClashesOf_l2, int_lt (get_lt ha), bif_t, ix_get ha, Option.bind_some, w64_succ (show i < 9223372036854775807 by have := get_lt ha; omega), Int.toNat_natCast, ha, Option.getD_some]
 ·intro acc k; simp only [F_impl_ClashesOf_l2, int_lt_self, bif_f]
 ·intro i k a b acc k6 k7 ha hb hac
  have hr : room (acc.length + [[(i : Int), (k : Int)]].length) 24 := room24' (by simp only [List.length_singleton]; omega)
  simp only [F_impl_ClashesOf_l3, F_impl_Turn_end, int_lt (get_lt hb), bif_t, ix_get hb, Option.bind_some, need_true hr, bif_dec, w64_succ (show k < 9223372036854775807 by have := get_lt hb; omega), cl_some ha hb, Int.toNat_natCast, ha, Option.getD_some]
  by_cases h1 : a.1 = b.1
  ·rw [if_pos h1]
   by_cases h2 : b.2.1 < w64 (a.2.1 + a.2.2)
   ·rw [if_pos h2, if_pos ⟨h1, h2⟩]
   ·rw [if_neg h2, if_neg (fun h => h2 h.2), List.append_nil]
  ·rw [if_neg h1, if_neg (fun h => h1 h.1), List.append_nil]
 ·intro i acc k6 k7 hi; simp only [F_impl_ClashesOf_l3, int_lt_self, bif_f, w64_succ (show i < 9223372036854775807 by omega)]
theorem allC_pr {L : List TTurn} {m : Nat} {q : List Int} (h : q ∈ allC L m) : ∃ (i k : Nat) (a b : TTurn), q = [(i : Int), (k : Int)] ∧ i < k ∧ L[i]? = some a ∧ L[k]? = some b ∧ a.1 = b.1 ∧ b.2.1 < w64 (a.2.1 + a.2.2) := by
 unfold allC rowC at h
 obtain ⟨i, _, h⟩ := List.mem_flatMap.1 h
 obtain ⟨j, _, h⟩ := List.mem_flatMap.1 h
 unfold cl at h
 split at h
 ·rename_i a b ha hb
  split at h
  ·rename_i hc
   exact ⟨i, _, a, b, List.mem_singleton.1 h, by omega, ha, hb, hc.1, hc.2⟩
  ·cases h
 ·cases h
theorem no_clash {L : List TTurn} {s : Int} (h : chn s L) (hv : TV 24 L) : allC L L.length = [] := List.eq_nil_iff_forall_not_mem.2 fun q hq => by
 obtain ⟨i, k, a, b, _, hik, ha, hb, _, hc⟩ := allC_pr hq
 obtain ⟨_, o2, o3⟩ := hv.ok a (get_mem ha)
 have := chn_lt h hik ha hb
 rw [w64_id (by omega)] at hc
 omega
theorem r8At_ok {c : List Int} (hc : ∀ b ∈ c, 0 ≤ b ∧ b ≤ 255) {k n : Int} (hk : 0 ≤ k) (hn : 2 ≤ n) : ∃ x, F_laws_r8At c k n = some x ∧ 0 ≤ x ∧ x < n := by
 unfold F_laws_r8At
 rw [bif_dec, if_neg (by omega), bif_dec]
 split
 ·exact ⟨_, rfl, by omega, by omega⟩
 ·rename_i hlt
  obtain ⟨b, hb, hm⟩ := ix_in (L := c) hk (by omega)
  have := hc b hm
  rw [hb, Option.bind_some, need_true (by omega), w64_id (by omega)]
  exact ⟨_, rfl, Int.tmod_nonneg _ this.1, Int.tmod_lt_of_pos _ (by omega)⟩
theorem r8Wide_ok {c : List Int} (hc : ∀ b ∈ c, 0 ≤ b ∧ b ≤ 255) : ∃ x, F_laws_r8Wide c 0 2000 = some x ∧ 0 ≤ x ∧ x < 2000 := by
 unfold F_laws_r8Wide
 obtain ⟨a, ea, a1, a2⟩ := r8At_ok hc (k := 0) (n := 256) (by omega) (by omega)
 obtain ⟨b, eb, b1, b2⟩ := r8At_ok hc (k := w64 (0 + 1)) (n := 256) (by rw [w64_id (by omega)]; omega) (by omega)
 rw [ea, Option.bind_some, eb, Option.bind_some, need_true (by omega), w64_id (x := 256 * a) (by omega), w64_id (by omega)]
 exact ⟨_, rfl, Int.tmod_nonneg _ (by omega), Int.tmod_lt_of_pos _ (by omega)⟩
def dec2 (L : List TTurn) : Prop := ∀ (i : Nat) (a b : TTurn), L[i]? = some a → L[i + 2]? = some b → b.2.2 ≤ a.2.2
theorem dec2_app {L : List TTurn} {x y : TTurn} {l : Int} (h : dec2 L) (hx : x.2.2 = l) (hy : y.2.2 = l) (ha : ∀ a ∈ L, l ≤ a.2.2) : dec2 (L ++ [x, y]) := by
 intro i a b h1 h2
 have hlt := get_lt h2
 rw [List.length_append] at hlt
 simp only [List.length_cons, List.length_nil] at hlt
 rw [List.getElem?_append_left (by omega)] at h1
 rcases Nat.lt_or_ge (i + 2) L.length with hi | hi
 ·rw [List.getElem?_append_left hi] at h2
  exact h i a b h1 h2
 ·rw [List.getElem?_append_right hi] at h2
  have hm := get_mem h2
  have := ha a (get_mem h1)
  rcases List.mem_cons.1 hm with rfl | hm
  ·omega
  ·rw [List.mem_singleton.1 hm]; omega
theorem half_up {l : Int} (h : 1 ≤ l ∧ l ≤ 60) : ∃ m, F_impl_divUp l 2 = some m ∧ 1 ≤ m ∧ m ≤ l := by
 unfold F_impl_divUp
 rw [need_true (by omega), w64_id (x := l + 2) (by omega), w64_id (x := l + 2 - 1) (by omega), Int.tdiv_eq_ediv_of_nonneg (by omega), w64_id (by omega)]
 exact ⟨_, rfl, by omega, by omega⟩
theorem share_ex {s l : Int} (hs : 0 ≤ s ∧ s < 2000) (hl : 1 ≤ l ∧ l ≤ 60) {r : Nat} (hr : 1 ≤ r ∧ r ≤ 12) : ∃ L, F_impl_ShareTurns [102, 108, 117, 116, 101] [100, 114, 117, 109] s l (r : Int) = some (L, 0) ∧ L.length = 2 * r ∧ chn s L ∧ TV 24 L ∧ dec2 L := by
 unfold F_impl_ShareTurns
 have n1 : F_impl_IsName [102, 108, 117, 116, 101] = some true := by rw [IsName_eq _ (by decide)]; decide
 have n2 : F_impl_IsName [100, 114, 117, 109] = some true := by rw [IsName_eq _ (by decide)]; decide
 have n3 : decide (([102, 108, 117, 116, 101] : List UInt8) = [100, 114, 117, 109]) = false := by decide
 rw [n1, Option.bind_some, Bool.not_true, bif_f, n2, Option.bind_some, Bool.not_true, bif_f, n3]
 unfold F_impl_ShareTurns_j1
 rw [bif_f, within_eq, Option.bind_some, decide_eq_true (by omega), Bool.not_true, bif_f, within_eq, Option.bind_some, decide_eq_true (by omega), Bool.not_true, bif_f, within_eq, Option.bind_some, decide_eq_true (by omega), Bool.not_true, bif_f]
 unfold F_impl_ShareTurns_j0
 obtain ⟨q, e, hq⟩ := loop_ex (body := F_impl_ShareTurns_l2 [102, 108, 117, 116, 101] [100, 114, 117, 109] (r : Int)) (s0 := (s, l, 0, [])) (L := List.range r) (Q := fun q : List TTurn × Int => ∃ L, q = (L, 0) ∧ L.length = 2 * r ∧ chn s L ∧ TV 24 L ∧ dec2 L)
  (fun j v => v.2.2.1 = (j : Int) ∧ v.2.2.2.length = 2 * j ∧ chn s v.2.2.2 ∧ v.1 = s + totT v.2.2.2 ∧ (0 ≤ totT v.2.2.2 ∧ totT v.2.2.2 ≤ 120 * j) ∧ (1 ≤ v.2.1 ∧ v.2.1 ≤ 60) ∧ (∀ a ∈ v.2.2.2, v.2.1 ≤ a.2.2) ∧ dec2 v.2.2.2) (by rw [List.length_range]; omega)
  ⟨rfl, rfl, trivial, by simp [totT], by simp [totT], hl, by simp, by intro i a b h; simp at h⟩
  (by
   rintro j ⟨p, m, _, L⟩ K x hx hj ⟨rfl, h1, h2, h3, h4, h5, h6, h7⟩ hK
   dsimp only at h1 h2 h3 h4 h5 h6 h7
   have hjr := get_lt hx
   rw [List.length_range] at hjr
   obtain ⟨m2, em, e1, e2⟩ := half_up h5
   simp only [F_impl_ShareTurns_l2, int_lt hjr, bif_t]
   rw [need_true (room_small (by simp only [List.length_cons, List.length_nil]; omega) (by omega)), em, Option.bind_some, w64_succ hj, w64_id (x := p + m) (by omega), w64_id (x := 2 * m) (by omega), w64_id (by omega)]
   have ht : totT (L ++ [([102, 108, 117, 116, 101], p, m), ([100, 114, 117, 109], p + m, m)]) = totT L + 2 * m := by
    rw [totT_app]; simp only [totT]; omega
   refine hK _ ⟨rfl, ?_, ?_, ?_, ?_, ⟨by dsimp only; omega, by dsimp only; omega⟩, ?_, ?_⟩
   ·dsimp only; rw [List.length_append]; simp only [List.length_cons, List.length_nil]; omega
   ·refine chn_app h2 ⟨h3, ⟨?_, h5.1, by dsimp only; omega⟩, by dsimp only; omega, ⟨?_, h5.1, by dsimp only; omega⟩, trivial⟩
    ·dsimp only; decide
    ·dsimp only; decide
   ·dsimp only; rw [ht]; omega
   ·dsimp only; rw [ht]; omega
   ·intro a ha
    dsimp only
    rcases List.mem_append.1 ha with ha | ha
    ·have := h6 a ha; omega
    ·rcases List.mem_cons.1 ha with rfl | ha
     ·dsimp only; omega
     ·rw [List.mem_singleton.1 ha]; dsimp only; omega
   ·exact dec2_app h7 rfl rfl h6)
  (by
   rintro ⟨p, m, _, L⟩ K ⟨rfl, h1, h2, h3, h4, h5, h6, h7⟩
   dsimp only at h1 h2 h3 h4 h5 h6 h7
   rw [List.length_range] at h1 h4
   have hv := chn_tv h2 hs.1 (by omega) (by omega)
   simp only [F_impl_ShareTurns_l2, List.length_range, int_lt_self, bif_f]
   rw [ValidTurns_eq (hv.okl (by omega)), hv.valid (by omega), Option.bind_some, Bool.not_true, bif_f]
   exact ⟨_, rfl, L, rfl, h1, h2, hv, h7⟩)
 obtain ⟨L, rfl, h⟩ := hq
 exact ⟨L, e, h⟩
theorem turn_back {n : Nat} {L : List TTurn} (h : TV n L) {t : TTurn} (hm : t ∈ L) : ∃ x, F_impl_TurnText t = some x ∧ F_impl_ReadTurn x = some (t, true) := by
 obtain ⟨o1, o2, o3⟩ := h.ok t hm
 have hk := h.tok t hm
 have hp := (plys_ok t.1 o1).2
 have hn : (32 : UInt8) ∉ t.1 := by
  have : ∀ p ∈ plys, (32 : UInt8) ∉ p := by decide
  exact this t.1 o1
 have i1 := itoa_five (n := t.2.1) (by omega)
 have i2 := itoa_five (n := t.2.2) (by omega)
 have ot : OkTurn t := ⟨by unfold OkS; omega, by unfold OkI; omega, by unfold OkI; omega⟩
 have e1 : F_impl_TurnText t = some ((((t.1 ++ [32]) ++ itoa t.2.1) ++ [43]) ++ itoa t.2.2) := by
  unfold F_impl_TurnText
  rw [Tvalid_eq ot, hk, Option.bind_some, Bool.not_true, bif_f, need_true (by simp only [List.length_singleton]; omega), Decimal_eq (by omega), Option.bind_some, need_true (by simp only [List.length_append, List.length_singleton]; omega), need_true (by simp only [List.length_append, List.length_singleton]; omega), Decimal_eq (by omega), Option.bind_some, need_true (by simp only [List.length_append, List.length_singleton]; omega)]
 refine ⟨_, e1, ?_⟩
 have e2 : (((t.1 ++ [32]) ++ itoa t.2.1) ++ [43]) ++ itoa t.2.2 = t.1 ++ 32 :: (itoa t.2.1 ++ 43 :: itoa t.2.2) := by simp
 have hl : ((((t.1 ++ [32]) ++ itoa t.2.1) ++ [43]) ++ itoa t.2.2).length < 4294967281 := by simp only [List.length_append, List.length_singleton]; omega
 have hl2 : (itoa t.2.1 ++ 43 :: itoa t.2.2).length < 4294967281 := by simp only [List.length_append, List.length_cons]; omega
 unfold F_impl_ReadTurn
 rw [F_cut_eq 32 hl, e2, cutA_app hn, Option.bind_some]
 dsimp only
 rw [F_cut_eq 43 hl2, cutA_app (itoa_no (by omega) (by decide)), Option.bind_some]
 dsimp only
 unfold F_readDec
 rw [need_true (by omega), itoa_read (by omega), Option.bind_some, need_true (by omega), itoa_read (by omega), Option.bind_some]
 simp only [Bool.not_true, bif_f]
 have e3 : F_impl_TurnText (t.1, t.2.1, t.2.2) = some ((((t.1 ++ [32]) ++ itoa t.2.1) ++ [43]) ++ itoa t.2.2) := e1
 rw [e3, Option.bind_some, e2, decide_eq_false (by simp), bif_f]
theorem turns_last {c : List Int} (hc : ∀ b ∈ c, 0 ≤ b ∧ b ≤ 255) {L : List TTurn} {s : Int} (h : chn s L) (hv : TV 24 L) : ∃ r, loop (F_laws_FnTurns_l4 c (L, 0)) 0 = some r ∧ r = true := by
 have hL := hv.len
 refine loop_ex (L := L) (fun i v => v = (i : Int)) (by omega) rfl ?_ ?_
 ·rintro i _ K t ht hi rfl hK
  have l1 : decide ((([t.1] : List Str).length : Int) ≠ 1) = false := rfl
  have i0 : ix [t.1] 0 = some t.1 := rfl
  simp only [F_laws_FnTurns_l4, int_lt (get_lt ht), bif_t, ix_get ht, Option.bind_some, chn_alone h hv ht, ne_eq, not_true_eq_false, decide_false, bif_f, l1, i0, w64_succ hi]
  exact hK _ rfl
 ·rintro _ K rfl
  obtain ⟨M, eM, hM, _⟩ := turns_ok hc
  have hM := hM.tv
  have hMl := hM.len
  simp only [F_laws_FnTurns_l4, int_lt_self, bif_f, eM, Option.bind_some, iClash (show M.length ≤ 1000 by omega) (hM.okl (by omega)) (hM.valid (by omega)), ne_eq, not_true_eq_false, decide_false]
  refine loop_ex (L := allC M M.length) (fun i v => v = (i : Int)) (by have := allC_len M M.length; have := Nat.mul_le_mul hMl hMl; omega) rfl ?_ ?_
  ·rintro i _ K2 q hq hi rfl hK2
   obtain ⟨a, b, x, y, rfl, hab, hx, hy, hxy, _⟩ := allC_pr (get_mem hq)
   have hbl := get_lt hy
   have l2 : decide ((([(a : Int), (b : Int)] : List Int).length : Int) ≠ 2) = false := rfl
   have i0 : ix [(a : Int), (b : Int)] 0 = some (a : Int) := rfl
   have i1 : ix [(a : Int), (b : Int)] 1 = some (b : Int) := rfl
   simp only [F_laws_FnTurns_l5, int_lt (get_lt hq), bif_t, ix_get hq, Option.bind_some, l2, bif_f, i0, i1, ix_get hx, ix_get hy]
   rw [decide_eq_false (show ¬ (a : Int) < 0 by omega), bif_f, decide_eq_false (show ¬ (b : Int) ≤ (a : Int) by omega), bif_f, decide_eq_false (show ¬ (M.length : Int) ≤ (b : Int) by omega), bif_f, decide_eq_false (show ¬ x.1 ≠ y.1 from fun n => n hxy), bif_f, w64_succ hi]
   exact hK2 _ rfl
  ·rintro _ K2 rfl
   simp only [F_laws_FnTurns_l5, int_lt_self, bif_f]
   exact ⟨_, rfl, rfl⟩
theorem law_FnTurns (c : List Int) (oc : (OkL OkU) c) : F_laws_FnTurns c = some true := by
 unfold F_laws_FnTurns
 obtain ⟨s, es, s1, s2⟩ := r8Wide_ok oc.2
 obtain ⟨l, el, l1, l2⟩ := r8At_ok oc.2 (k := 2) (n := 60) (by omega) (by omega)
 obtain ⟨m, em, m1, m2⟩ := r8At_ok oc.2 (k := 3) (n := 12) (by omega) (by omega)
 obtain ⟨r, hr⟩ : ∃ r : Nat, 1 + m = (r : Int) := ⟨(1 + m).toNat, by omega⟩
 obtain ⟨L, eL, hL, h, hv, hd⟩ := share_ex ⟨s1, s2⟩ (l := 1 + l) (by omega) (r := r) (by omega)
 have hv2 : F_spec_ValidTurns L = some true := by
  unfold F_spec_ValidTurns
  rw [l23Ok_eq (hv.okl (by omega)), hv.valid (by omega), Option.bind_some]
 rw [bif_dec]
 split
 ·rfl
 ·have d0 : decide ((0 : Int) ≠ 0) = false := rfl
  rw [es, Option.bind_some, el, Option.bind_some, em, Option.bind_some, w64_id (x := 1 + l) (by omega), w64_id (x := 1 + m) (by omega), hr, eL, Option.bind_some]
  dsimp only
  rw [iClash (by omega) (hv.okl (by omega)) (hv.valid (by omega)), no_clash h hv, Option.bind_some]
  dsimp only
  rw [d0, bif_f, hv2, Option.bind_some, Bool.not_true, bif_f, decide_eq_false (by rw [w64_id (by omega)]; omega), bif_f, bif_f]
  simp only [List.length_nil, ne_eq, not_true_eq_false, decide_false, bif_f, Int.natCast_zero]
  obtain ⟨q, eq, hq⟩ : ∃ q, loop (F_laws_FnTurns_l2 c (L, 0)) (s, 0) = some q ∧ q = true := by
   refine loop_ex (L := L) (fun i v => v.2 = (i : Int) ∧ v.1 = s + totT (L.take i)) (by omega) ⟨rfl, by simp [totT]⟩ ?_ ?_
   ·rintro i ⟨_, _⟩ K t ht hi ⟨rfl, rfl⟩ hK
    have hit := get_lt ht
    obtain ⟨x, e1, e2⟩ := turn_back hv (get_mem ht)
    have hat := chn_at h ht
    obtain ⟨_, o2, o3⟩ := hv.ok t (get_mem ht)
    have hj : ∃ q, F_laws_FnTurns_j3 (L, 0) (s + totT (L.take i)) (i : Int) K = some q ∧ q = true := by
     unfold F_laws_FnTurns_j3
     rw [ix_get ht, Option.bind_some, w64_succ hi, w64_id (by omega)]
     refine hK _ ⟨rfl, ?_⟩
     dsimp only
     rw [take_succ ht, totT_app]
     simp only [totT]
     omega
    simp only [F_laws_FnTurns_l2, int_lt hit, bif_t, ix_get ht, Option.bind_some, e1, e2, Bool.not_true, bif_f, decide_true, Bool.and_self]
    rw [decide_eq_false (show ¬ t.2.1 ≠ s + totT (L.take i) from fun n => n hat), bif_f, bif_dec]
    split
    ·rename_i h1
     obtain ⟨q, rfl⟩ : ∃ q, i = q + 2 := ⟨i - 2, by omega⟩
     obtain ⟨y, hy⟩ := get_some (L := L) (n := q) (by omega)
     have e3 : w64 (((q + 2 : Nat) : Int) - 2) = (q : Int) := by rw [w64_id (by omega)]; omega
     have := hd q y t hy ht
     rw [e3, ix_get hy, Option.bind_some, decide_eq_false (by omega), bif_f]
     exact hj
    ·exact hj
   ·rintro ⟨_, _⟩ K ⟨rfl, _⟩
    simp only [F_laws_FnTurns_l2, int_lt_self, bif_f]
    exact turns_last oc.2 h hv
  rw [eq, hq]
end Go.Ab
