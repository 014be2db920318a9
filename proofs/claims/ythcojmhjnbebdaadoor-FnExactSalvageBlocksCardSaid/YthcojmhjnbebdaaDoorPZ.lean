/- Own texts, merged: PNames PBlock PSpl PSpT PDec PCrc PParse PBlocks PSearch PSrtB PIns PSal. -/
import Derived.Test.YthcojmhjnbebdaaDoorPS
import Derived.Test.YthcojmhjnbebdaaDoorPL
import Derived.Test.YthcojmhjnbebdaaDoorGT
import Derived.Lib.SplitLaws
import Derived.Lib.ItoaNum
/- Names (own text). -/
set_option linter.unusedVariables false
set_option linter.unusedSimpArgs false
namespace Go.Ab
open Go.RowKit

/-- A byte of a name. -/
def nb (b : UInt8) : Bool := decide ((97 ≤ b.toNat ∧ b.toNat ≤ 122) ∨ (48 ≤ b.toNat ∧ b.toNat ≤ 57))
def lowHead : List UInt8 → Bool
  | [] => false
  | b :: _ => decide (97 ≤ b.toNat ∧ b.toNat ≤ 122)
/-- A name. -/
def nameOk (s : List UInt8) : Bool := decide (s.length ≤ 10) && (lowHead s && s.all nb)
theorem l01Small_eq (c : Int) : F_spec_l01Small c = some (decide (97 ≤ c ∧ c ≤ 122)) := by
  unfold F_spec_l01Small
  by_cases h : 97 ≤ c <;> simp [h]
theorem l01Digit_eq (c : Int) : F_spec_l01Digit c = some (decide (48 ≤ c ∧ c ≤ 57)) := by
  unfold F_spec_l01Digit
  by_cases h : 48 ≤ c <;> simp [h]
theorem l01Name_eq (s : List UInt8) (hs : s.length ≤ 9223372036854775807) : F_spec_l01Name s = some (nameOk s) := by
  unfold F_spec_l01Name
  cases s with
  | nil => rfl
  | cons b t =>
    have e : loop (F_spec_l01Name_l0 (b :: t)) 0 = some ((b :: t).all nb) := by
      refine loop_all nb hs ?_ ?_
      · intro i k a ha hi
        simp only [F_spec_l01Name_l0, int_lt (get_lt ha), ix_get ha, Option.bind_some, bif_t, l01Small_eq, l01Digit_eq, w64_succ hi, ← decide_not, bif_dec, nb]
        repeat' split
        all_goals first | rfl | (exfalso; omega)
      · intro k; simp [F_spec_l01Name_l0]
    rw [e]
    simp only [reduceCtorEq, decide_false, bif_f, ix_zero, Option.bind_some, l01Small_eq, ← decide_not, bif_dec, nameOk, lowHead]
    split
    · rename_i h; rw [decide_eq_false (by omega)]; rfl
    · rename_i h
      rw [decide_eq_true (by omega)]
      split
      · rename_i h2; rw [decide_eq_false (by omega)]; rfl
      · rename_i h2; rw [decide_eq_true (by omega)]; rfl
theorem onlyNameBytes_eq (s : List UInt8) (hs : s.length ≤ 9223372036854775807) : F_impl_onlyNameBytes s = some (s.all nb) := by
  unfold F_impl_onlyNameBytes
  refine loop_all nb hs ?_ ?_
  · intro i k a ha hi
    simp only [F_impl_onlyNameBytes_l0, int_lt (get_lt ha), ix_get ha, Option.bind_some, bif_t, w64_succ hi, bif_dec, nb]
    repeat' split
    all_goals first | rfl | (exfalso; omega)
  · intro k; simp [F_impl_onlyNameBytes_l0]
theorem IsName_eq (s : List UInt8) (hs : s.length ≤ 9223372036854775807) : F_impl_IsName s = some (nameOk s) := by
  unfold F_impl_IsName
  rw [onlyNameBytes_eq s hs]
  cases s with
  | nil => rfl
  | cons b t =>
    simp only [ix_zero, Option.bind_some, bif_dec, nameOk, lowHead]
    split
    · rename_i h; simp at h; omega
    · split
      · rename_i h; rw [decide_eq_false (by omega)]; rfl
      · rename_i h
        rw [decide_eq_true (by omega)]
        split
        · rename_i h2; rw [decide_eq_false (by omega)]; rfl
        · split
          · rename_i h2; rw [decide_eq_false (by omega)]; rfl
          · rw [decide_eq_true (by omega)]; rfl
end Go.Ab
/- ValidBlock: the program's and the reference's (own text). -/
set_option linter.unusedVariables false
set_option linter.unusedSimpArgs false
namespace Go.Ab
open Go.RowKit
section
variable {α : Type}
/-- Each is right, and each is right behind the one before. -/
def adj (one : α → Bool) (bef : α → α → Bool) : Option α → List α → Bool
  | _, [] => true
  | none, x :: t => one x && adj one bef (some x) t
  | some q, x :: t => one x && (bef q x && adj one bef (some x) t)
def prevA (A : List α) : Nat → Option α
  | 0 => none
  | n + 1 => A[n]?
theorem loop_adj {A : List α} {one : α → Bool} {bef : α → α → Bool} {fin : Bool} {body : (Int → Option Bool) → Int → Option Bool} (hA : A.length ≤ 9223372036854775807)
    (first : ∀ k a, A[0]? = some a → body k 0 = bif one a then k 1 else some false)
    (more : ∀ (i : Nat) k q a, A[i]? = some q → A[i + 1]? = some a → i + 1 < 9223372036854775807 → body k ((i + 1 : Nat) : Int) = bif one a then (bif bef q a then k ((i + 2 : Nat) : Int) else some false) else some false)
    (done : ∀ k, body k (A.length : Int) = some fin) : loop body 0 = some (adj one bef none A && fin) := by
  have := loop_at (L := A) (body := body) (fun i => adj one bef (prevA A i) (A.drop i) && fin) hA ?_ ?_
  · exact this
  · intro i k a ha hi hk
    rw [drop_cons ha]
    cases i with
    | zero =>
      have h1 := first k a ha
      have hp : prevA A 1 = some a := ha
      rw [hp] at hk
      show body k 0 = _
      rw [h1]
      simp only [prevA, adj]
      cases one a
      · rfl
      · exact hk
    | succ n =>
      obtain ⟨q, hq⟩ := get_some (L := A) (n := n) (by have := get_lt ha; omega)
      have h1 := more n k q a hq ha hi
      have hp : prevA A (n + 1 + 1) = some a := ha
      rw [hp] at hk
      rw [h1]
      simp only [prevA, hq, adj]
      cases one a
      · rfl
      · cases bef q a
        · rfl
        · exact hk
  · intro k
    rw [done, List.drop_length]
    cases prevA A A.length <;> simp [adj]
end
theorem byteIdx_pos (s : List UInt8) (c : UInt8) : 0 ≤ byteIdx s c ↔ c ∈ s := by
  unfold byteIdx
  cases h : s.findIdx? (· == c) with
  | none =>
    rw [List.findIdx?_eq_none_iff] at h
    constructor
    · intro h2; exact absurd h2 (by show ¬ (0 : Int) ≤ -1; omega)
    · intro h2; have := h c h2; simp at this
  | some i =>
    constructor
    · intro _
      obtain ⟨h1, h2, _⟩ := List.findIdx?_eq_some_iff_getElem.1 h
      have h2 : s[i] = c := by simpa using h2
      rw [← h2]; exact List.getElem_mem h1
    · intro _; show (0 : Int) ≤ (i : Int); omega
theorem Contains_byte (s : List UInt8) (c : UInt8) : F_strings_Contains s [c] = some (decide (c ∈ s)) := by
  unfold F_strings_Contains F_strings_Index F_stringslite_Index F_stringslite_Index_j0 F_stringslite_IndexByte
  by_cases h : [c] = s
  · subst h; simp
  · simp [h, ix, byteIdx_pos]
/-- A right block. -/
def blkOk (b : TBlock) : Bool := nameOk b.1 && (nameOk b.2.1 && (decide ((b.2.2.length : Int) ≤ 400) && !decide ((10 : UInt8) ∈ b.2.2)))
theorem l29One_eq (b : TBlock) (h1 : b.1.length ≤ 9223372036854775807) (h2 : b.2.1.length ≤ 9223372036854775807) (h3 : b.2.2.length ≤ 9223372036854775807) : F_spec_l29One b = some (blkOk b) := by
  unfold F_spec_l29One
  have := loop_sfx (body := F_spec_l29One_l0 b) (L := b.2.2) (fun t => !decide ((10 : UInt8) ∈ t) && (nameOk b.1 && (nameOk b.2.1 && decide ((b.2.2.length : Int) ≤ 400)))) h3 ?_ ?_
  · rw [this]
    unfold blkOk
    congr 1
    cases nameOk b.1 <;> cases nameOk b.2.1 <;> cases decide ((b.2.2.length : Int) ≤ 400) <;> simp
  · intro i k a t ha hi hk
    simp only [F_spec_l29One_l0, int_lt (get_lt ha), bif_t, ix_get ha, Option.bind_some, w64_succ hi, bif_dec]
    split
    · rename_i h
      have : a = 10 := by
        apply UInt8.toNat_inj.1
        show a.toNat = 10
        omega
      subst this
      simp
    · rename_i h
      have : ¬ a = 10 := by rintro rfl; exact h rfl
      rw [hk]
      have e : ((10 : UInt8) ∈ a :: t) = ((10 : UInt8) ∈ t) := by
        simp only [List.mem_cons, eq_iff_iff, or_iff_right_iff_imp]
        intro e; exact absurd e.symm this
      simp only [e]
  · intro k
    simp only [F_spec_l29One_l0, int_lt_self, bif_f, l01Name_eq b.1 h1, l01Name_eq b.2.1 h2, Option.bind_some]
    cases nameOk b.1 <;> cases nameOk b.2.1 <;> simp
theorem ValidBlock_eq (b : TBlock) (h1 : b.1.length ≤ 9223372036854775807) (h2 : b.2.1.length ≤ 9223372036854775807) : F_impl_ValidBlock b = some (blkOk b) := by
  unfold F_impl_ValidBlock blkOk
  simp only [IsName_eq b.1 h1, IsName_eq b.2.1 h2, Contains_byte, Option.bind_some]
  cases nameOk b.1 <;> cases nameOk b.2.1 <;> cases decide ((b.2.2.length : Int) ≤ 400) <;> rfl
end Go.Ab
/- Texts divided at a byte (own text). -/
set_option linter.unusedVariables false
set_option linter.unusedSimpArgs false
namespace Go.Ab
open Go.RowKit

/-- What stands ahead of the first piece. -/
def ahead (p : List UInt8) : List (List UInt8) → List (List UInt8)
  | h :: t => (p ++ h) :: t
  | [] => [p]
def spl (c : UInt8) : List UInt8 → List (List UInt8)
  | [] => [[]]
  | x :: s => if x = c then [] :: spl c s else ahead [x] (spl c s)
def splN (c : UInt8) : Nat → List UInt8 → List (List UInt8)
  | 0, s => [s]
  | _ + 1, [] => [[]]
  | k + 1, x :: s => if x = c then [] :: splN c k s else ahead [x] (splN c (k + 1) s)
theorem ahead_ahead (p q : List UInt8) (l : List (List UInt8)) : ahead p (ahead q l) = ahead (p ++ q) l := by
  cases l <;> simp [ahead]
theorem ahead_nil {l : List (List UInt8)} (h : l ≠ []) : ahead [] l = l := by
  cases l with
  | nil => exact absurd rfl h
  | cons => rfl
theorem ahead_ne (p : List UInt8) (l : List (List UInt8)) : ahead p l ≠ [] := by cases l <;> simp [ahead]
theorem spl_ne (c : UInt8) (s : List UInt8) : spl c s ≠ [] := by
  cases s with
  | nil => simp [spl]
  | cons x s =>
    simp only [spl]
    split
    · simp
    · exact ahead_ne _ _
theorem spl_len (c : UInt8) (s : List UInt8) : (spl c s).length ≤ s.length + 1 := by
  induction s with
  | nil => simp [spl]
  | cons x s ih =>
    simp only [spl]
    split
    · simp; exact ih
    · have : (ahead [x] (spl c s)).length = (spl c s).length := by
        cases h : spl c s with
        | nil => exact absurd h (spl_ne c s)
        | cons => rfl
      rw [this, List.length_cons]; omega
theorem spl_nil {c : UInt8} {p : List UInt8} : ahead p (spl c []) = [p] := by simp [spl, ahead]
theorem spl_hit {c : UInt8} {p s : List UInt8} : ahead p (spl c (c :: s)) = p :: spl c s := by simp [spl, ahead]
theorem spl_miss {c x : UInt8} {p s : List UInt8} (h : x ≠ c) : ahead p (spl c (x :: s)) = ahead (p ++ [x]) (spl c s) := by
  simp only [spl, h, if_false]
  exact ahead_ahead _ _ _
/-- The pieces hold no byte of the kind, and are no longer than the whole. -/
theorem ahead_mem {p : List UInt8} {l : List (List UInt8)} {Q : List UInt8 → Prop} (h1 : ∀ h t, l = h :: t → Q (p ++ h)) (h0 : l = [] → Q p) (h2 : ∀ x ∈ l, Q x) : ∀ x ∈ ahead p l, Q x := by
  cases l with
  | nil => intro x hx; rw [List.mem_singleton.1 hx]; exact h0 rfl
  | cons h t =>
    intro x hx
    rcases List.mem_cons.1 hx with rfl | hx
    · exact h1 h t rfl
    · exact h2 x (by simp [hx])
theorem spl_sum (c : UInt8) (s : List UInt8) : ∀ x ∈ spl c s, x.length ≤ s.length ∧ c ∉ x := by
  induction s with
  | nil => simp [spl]
  | cons y s ih =>
    simp only [spl]
    split
    · intro x hx
      rcases List.mem_cons.1 hx with rfl | hx
      · simp
      · obtain ⟨h1, h2⟩ := ih x hx
        exact ⟨by simp only [List.length_cons]; omega, h2⟩
    · rename_i hne
      refine ahead_mem ?_ (fun h => absurd h (spl_ne c s)) ?_
      · intro h t e
        obtain ⟨h1, h2⟩ := ih h (by rw [e]; simp)
        refine ⟨by simp only [List.length_append, List.length_cons, List.length_nil]; omega, ?_⟩
        simp only [List.singleton_append, List.mem_cons, not_or]
        exact ⟨fun e => hne e.symm, h2⟩
      · intro x hx
        obtain ⟨h1, h2⟩ := ih x hx
        exact ⟨by simp only [List.length_cons]; omega, h2⟩

theorem index_one (c x : UInt8) (s : List UInt8) : Go.Lib.index (x :: s) [c] = if x = c then 0 else if Go.Lib.index s [c] = -1 then -1 else Go.Lib.index s [c] + 1 := by
  simp only [Go.Lib.index, List.isPrefixOf, Bool.and_true, beq_iff_eq]
  by_cases h : x = c
  · subst h; simp
  · simp [h, show ¬ c = x from fun e => h e.symm]
theorem splitK_eq (c : UInt8) : ∀ (s : List UInt8) (k : Nat), Go.Lib.splitK [c] 0 k s = splN c k s
  | s, 0 => by simp [Go.Lib.splitK, splN]
  | [], k + 1 => by simp [Go.Lib.splitK, splN, Go.Lib.index]
  | x :: s, k + 1 => by
    have ih := splitK_eq c s (k + 1)
    have ih0 := splitK_eq c s k
    have hge := Go.Lib.index_ge s [c]
    simp only [Go.Lib.splitK, splN, index_one, beq_iff_eq] at ih ⊢
    by_cases h : x = c
    · simp [h, ih0]
    · simp only [h, if_false]
      by_cases h2 : Go.Lib.index s [c] = -1
      · simp only [h2, if_true] at ih ⊢
        rw [← ih]; simp [ahead]
      · simp only [h2, if_false] at ih ⊢
        rw [← ih]
        have e1 : ¬ (Go.Lib.index s [c] + 1 = -1) := by omega
        have e2 : (Go.Lib.index s [c] + 1).toNat = (Go.Lib.index s [c]).toNat + 1 := by omega
        rw [if_neg e1, e2]
        simp [ahead, Nat.add_right_comm]
theorem splN_all (c : UInt8) : ∀ (s : List UInt8) (k : Nat), s.count c ≤ k → splN c k s = spl c s
  | [], 0, _ => rfl
  | [], k + 1, _ => rfl
  | x :: s, 0, h => by
    have hx : x ≠ c := by rintro rfl; simp at h
    have hs : s.count c ≤ 0 := by rw [List.count_cons_of_ne hx] at h; exact h
    have ih := splN_all c s 0 hs
    simp only [splN, spl, hx, if_false] at ih ⊢
    rw [← ih]; simp [ahead]
  | x :: s, k + 1, h => by
    simp only [splN, spl]
    by_cases hx : x = c
    · subst hx
      rw [List.count_cons_self] at h
      simp only [if_true]
      rw [splN_all x s k (by omega)]
    · rw [List.count_cons_of_ne hx] at h
      simp only [hx, if_false]
      rw [splN_all c s (k + 1) h]
theorem F_split_eq {s : List UInt8} (c : UInt8) (h : s.length < 4294967281) : F_split s [c] = some (spl c s) := by
  unfold F_split
  rw [need_true ⟨h, by simp⟩, Go.Lib.splitB_data, bz_data, bz_data, splitK_eq]
  congr 1
  refine splN_all c s _ ?_
  have : Go.Lib.countB (bz s) (bz [c]) = Go.Lib.count s [c] := by unfold Go.Lib.countB; rw [bz_data, bz_data]
  rw [this, Go.Lib.count_one]
  exact Nat.le_refl _
theorem F_splitN_eq {s : List UInt8} (c : UInt8) {n : Nat} (h : s.length < 4294967281) (h1 : 1 ≤ n) (h2 : n ≤ 9223372036854775807) : F_splitN s [c] (n : Int) = some (splN c (min n (s.length + 1) - 1) s) := by
  unfold F_splitN
  rw [need_true ⟨h, by simp, by omega, by omega⟩, Go.Lib.splitB_data, bz_data, bz_data, splitK_eq]
  rfl
/-- At the first byte of a kind. -/
def cutA (c : UInt8) (s : List UInt8) : List UInt8 × List UInt8 × Bool := (s.takeWhile (fun x => !decide (x = c)), (s.dropWhile (fun x => !decide (x = c))).tail, decide (c ∈ s))
theorem cut_eq (c : UInt8) : ∀ s : List UInt8, Go.Lib.cut s [c] = cutA c s
  | [] => by simp [Go.Lib.cut, cutA, Go.Lib.index]
  | x :: s => by
    have ih := cut_eq c s
    have hge := Go.Lib.index_ge s [c]
    simp only [Go.Lib.cut, cutA, index_one] at ih ⊢
    by_cases h : x = c
    · subst h; simp
    · have hcx : c ≠ x := fun e => h e.symm
      simp only [h, if_false] at ih ⊢
      by_cases h2 : Go.Lib.index s [c] = -1
      · simp only [h2, if_true] at ih ⊢
        simp only [show ¬ ((0 : Int) ≤ -1) by decide, if_false, Prod.mk.injEq] at ih ⊢
        obtain ⟨i1, i2, i3⟩ := ih
        have i3' : c ∉ s := by simpa using i3.symm
        simp only [List.takeWhile_cons, List.dropWhile_cons, h, ← i1, ← i2, decide_false, Bool.not_false, if_true, true_and]
        simp [hcx, i3']
      · have e1 : (0 : Int) ≤ Go.Lib.index s [c] + 1 := by omega
        have e0 : (0 : Int) ≤ Go.Lib.index s [c] := by omega
        have e2 : (Go.Lib.index s [c] + 1).toNat = (Go.Lib.index s [c]).toNat + 1 := by omega
        simp only [h2, if_false, e1, e2, e0, if_true, Prod.mk.injEq] at ih ⊢
        obtain ⟨i1, i2, i3⟩ := ih
        have i3' : c ∈ s := by simpa using i3.symm
        simp only [List.takeWhile_cons, List.dropWhile_cons, h, ← i1, ← i2, decide_false, Bool.not_false, if_true]
        simp [hcx, i3', Nat.add_right_comm]
theorem F_cut_eq {s : List UInt8} (c : UInt8) (h : s.length < 4294967281) : F_cut s [c] = some (cutA c s) := by
  unfold F_cut
  rw [need_true h, cut_eq]
end Go.Ab
/- The reference's Split (own text). -/
set_option linter.unusedVariables false
set_option linter.unusedSimpArgs false
namespace Go.Ab
open Go.RowKit
theorem sub_nat {α : Type} (L : List α) (a b : Nat) : sub L (a : Int) (b : Int) = (L.take b).drop a := by simp [sub]
theorem sub_step {α : Type} {L : List α} {a i : Nat} {x : α} (h : L[i]? = some x) (ha : a ≤ i) : (L.take (i + 1)).drop a = (L.take i).drop a ++ [x] := by
  rw [take_succ h, List.drop_append_of_le_length (by have := get_lt h; rw [List.length_take]; omega)]
theorem Split_eq (s : List UInt8) (c : UInt8) (hs : s.length ≤ 2000000) : F_spec_l01Split s (c.toNat : Int) = some (spl c s) := by
  unfold F_spec_l01Split
  suffices H : ∃ r, loop (F_spec_l01Split_l0 s (c.toNat : Int)) (0, 0, []) = some r ∧ r = spl c s by
    obtain ⟨r, e, hr⟩ := H
    rw [e, hr]
  refine loop_ex (L := s) (fun i st => ∃ a : Nat, st.1 = (a : Int) ∧ st.2.1 = (i : Int) ∧ a ≤ i ∧ st.2.2.length ≤ i ∧ spl c s = st.2.2 ++ ahead ((s.take i).drop a) (spl c (s.drop i))) (by omega)
    ⟨0, rfl, rfl, Nat.le_refl _, Nat.le_refl _, by simp [ahead_nil (spl_ne c s)]⟩ ?_ ?_
  · rintro i ⟨x1, x2, acc⟩ k x hx hi ⟨a, h1, h2, h3, h4, h5⟩ hk
    dsimp only at h1 h2 h4 h5
    subst h1 h2
    have hl := get_lt hx
    simp only [F_spec_l01Split_l0, int_lt hl, ix_get hx, Option.bind_some, bif_t, w64_succ hi, List.length_singleton]
    rw [drop_cons hx] at h5
    by_cases hc : x = c
    · subst hc
      rw [decide_eq_true rfl, bif_t, need_true ⟨by omega, by omega, by omega⟩, need_true (p := room _ _) (show room (acc.length + 1) 16 from ⟨by omega, by omega⟩)]
      rw [spl_hit] at h5
      refine hk _ ⟨i + 1, rfl, rfl, Nat.le_refl _, ?_, ?_⟩
      · simp; omega
      · dsimp only
        rw [h5, sub_nat, show (List.take (i + 1) s).drop (i + 1) = [] from List.drop_eq_nil_of_le (by rw [List.length_take]; omega), ahead_nil (spl_ne _ _)]
        simp
    · have : ¬ ((x.toNat : Int) = (c.toNat : Int)) := fun e => hc (UInt8.toNat_inj.1 (by omega))
      rw [decide_eq_false this, bif_f]
      refine hk _ ⟨a, rfl, rfl, by omega, by dsimp only; omega, ?_⟩
      dsimp only
      rw [spl_miss hc] at h5
      rw [h5, sub_step hx h3]
  · rintro ⟨x1, x2, acc⟩ k ⟨a, h1, h2, h3, h4, h5⟩
    dsimp only at h1 h2 h4 h5
    subst h1 h2
    simp only [F_spec_l01Split_l0, int_lt_self, bif_f, List.length_singleton]
    rw [need_true ⟨by omega, by omega, by omega⟩, need_true (p := room _ _) (show room (acc.length + 1) 16 from ⟨by omega, by omega⟩)]
    refine ⟨_, rfl, ?_⟩
    rw [h5, List.drop_length, spl_nil, sub_nat]
end Go.Ab
/- The reference's numerals (own text). -/
set_option linter.unusedVariables false
set_option linter.unusedSimpArgs false
namespace Go.Ab
open Go.RowKit
open Go.Lib (itoa decDigits)
theorem dig_len : ∀ (k u : Nat), u < 10 ^ (k + 1) → (decDigits u).length ≤ k + 1
  | 0, u, h => by rw [decDigits, dif_pos (by simpa using h)]; simp
  | k + 1, u, h => by
    rw [decDigits]
    split
    · simp
    · have := dig_len k (u / 10) (by rw [Nat.pow_succ] at h; omega)
      rw [List.length_append, List.length_singleton]; omega
/-- The digits, none for 0. -/
def dg0 (u : Nat) : List UInt8 := if u = 0 then [] else decDigits u
theorem dg0_step {u : Nat} (h : u ≠ 0) : dg0 u = dg0 (u / 10) ++ [UInt8.ofNat (48 + u % 10)] := by
  unfold dg0
  rw [if_neg h, decDigits]
  by_cases h1 : u < 10
  · rw [dif_pos h1, if_pos (by omega), Nat.mod_eq_of_lt h1]; rfl
  · rw [dif_neg h1, if_neg (by omega)]
theorem rev_loop (L : List Int) (hL : L.length ≤ 1000) : F_spec_l01Dec_j2 L = some (bytesI L.reverse) := by
  unfold F_spec_l01Dec_j2
  have key : ∀ (m : Nat) (acc : List Int) (n : Nat), m ≤ L.length → m < n → acc = (L.drop m).reverse → iter (F_spec_l01Dec_l3 L) n ((m : Int) - 1, acc) = some (bytesI L.reverse) := by
    intro m
    induction m with
    | zero =>
      intro acc n _ hn ha
      obtain ⟨n, rfl⟩ : ∃ n', n = n' + 1 := ⟨n - 1, by omega⟩
      show F_spec_l01Dec_l3 L (iter (F_spec_l01Dec_l3 L) n) _ = _
      simp only [F_spec_l01Dec_l3]
      rw [decide_eq_false (by omega), bif_f, ha]
      rfl
    | succ m ih =>
      intro acc n hm hn ha
      obtain ⟨n, rfl⟩ : ∃ n', n = n' + 1 := ⟨n - 1, by omega⟩
      show F_spec_l01Dec_l3 L (iter (F_spec_l01Dec_l3 L) n) _ = _
      obtain ⟨x, hx⟩ := get_some (L := L) (n := m) (by omega)
      have e1 : ((m + 1 : Nat) : Int) - 1 = (m : Int) := by omega
      have hl : acc.length ≤ 1000 := by rw [ha]; simp; omega
      simp only [F_spec_l01Dec_l3, e1]
      rw [decide_eq_true (by omega), bif_t, ix_get hx, Option.bind_some, need_true (p := room (acc.length + [x].length) 1) (show room (acc.length + 1) 1 from ⟨by omega, by omega⟩), w64_id (by omega)]
      refine ih _ n (by omega) (by omega) ?_
      rw [ha, drop_cons hx]; simp
  have hw : w64 ((L.length : Int) - 1) = (L.length : Int) - 1 := w64_id (by omega)
  rw [hw]
  exact key L.length [] lim (Nat.le_refl _) (lt_lim (by omega)) (by simp)
theorem l01Dec_eq (n : Int) (h : -9223372036854775808 ≤ n ∧ n ≤ 9223372036854775807) : F_spec_l01Dec n = some (itoa n) := by
  unfold F_spec_l01Dec
  by_cases h0 : n = 0
  · subst h0; rw [decide_eq_true rfl, bif_t]; unfold itoa; rw [if_neg (by omega), decDigits, dif_pos (by decide)]; rfl
  rw [decide_eq_false h0, bif_f]
  suffices H : ∃ r, loop (F_spec_l01Dec_l0 n) (n, []) = some r ∧ r = itoa n by
    obtain ⟨r, e, hr⟩ := H
    rw [e, hr]
  refine loop_mu (fun s => (-9223372036854775808 ≤ s.1 ∧ s.1 ≤ 9223372036854775807) ∧ (s.1 ≠ 0 → (s.1 < 0 ↔ n < 0)) ∧ s.1.natAbs * 10 ^ s.2.length ≤ n.natAbs ∧ s.2.length ≤ 19 ∧ dg0 n.natAbs = dg0 s.1.natAbs ++ bytesI s.2.reverse)
    (fun s => s.1.natAbs) ⟨h, fun _ => Iff.rfl, by simp, by simp, by simp [bytesI]⟩ (by show n.natAbs < lim; unfold lim; omega) ?_
  rintro ⟨v, L⟩ k ⟨hv, hsg, hp, hl, hd⟩ hk
  dsimp only at hv hsg hp hl hd hk
  simp only [F_spec_l01Dec_l0]
  by_cases hz : v = 0
  · subst hz
    rw [decide_eq_false (by simp), bif_f]
    have hd' : decDigits n.natAbs = bytesI L.reverse := by
      have : dg0 n.natAbs = decDigits n.natAbs := if_neg (by omega)
      rw [← this, hd]; simp [dg0]
    by_cases hn : n < 0
    · rw [decide_eq_true hn, bif_t, need_true (p := room (L.length + [(45 : Int)].length) 1) (show room (L.length + 1) 1 from ⟨by omega, by omega⟩), rev_loop _ (by simp; omega)]
      refine ⟨_, rfl, ?_⟩
      unfold itoa
      rw [if_pos hn, hd']
      simp [bytesI]
    · rw [decide_eq_false hn, bif_f, rev_loop _ (by omega)]
      refine ⟨_, rfl, ?_⟩
      unfold itoa
      rw [if_neg hn, show n.toNat = n.natAbs by omega, hd']
  · rw [decide_eq_true hz, bif_t]
    obtain ⟨q1, q2⟩ : Int.tdiv v 10 = (if v < 0 then -((-v) / 10) else v / 10) ∧ Int.tmod v 10 = (if v < 0 then -((-v) % 10) else v % 10) := by
      split
      · rename_i hv
        obtain ⟨u, rfl⟩ : ∃ u : Int, v = -u := ⟨-v, by omega⟩
        rw [Int.neg_tdiv, Int.neg_tmod, Int.tdiv_eq_ediv_of_nonneg (by omega), Int.tmod_eq_emod_of_nonneg (by omega), Int.neg_neg]
        exact ⟨rfl, rfl⟩
      · rw [Int.tdiv_eq_ediv_of_nonneg (by omega), Int.tmod_eq_emod_of_nonneg (by omega)]
        exact ⟨rfl, rfl⟩
    have ht : w64 (Int.tdiv v 10) = Int.tdiv v 10 := w64_id (by omega)
    have htn : (Int.tdiv v 10).natAbs = v.natAbs / 10 := by omega
    have hl2 : L.length + 1 ≤ 19 := by
      by_cases h19 : L.length = 19
      · rw [h19] at hp
        have : 1 ≤ v.natAbs := by omega
        have h2 : 1 * 10 ^ 19 ≤ v.natAbs * 10 ^ 19 := Nat.mul_le_mul_right _ this
        have h3 : n.natAbs ≤ 9223372036854775808 := by omega
        omega
      · omega
    have key : ∀ d : Int, d = (v.natAbs % 10 : Nat) → ∃ r, F_spec_l01Dec_j1 v L k d = some r ∧ r = itoa n := by
      rintro d rfl
      unfold F_spec_l01Dec_j1
      have e1 : IntKind.wrap .u8 (w64 (48 + ((v.natAbs % 10 : Nat) : Int))) = ((48 + v.natAbs % 10 : Nat) : Int) := by
        rw [w64_id (by omega)]
        simp only [IntKind.wrap, IntKind.signed, IntKind.bits]
        have : ((48 + ((v.natAbs % 10 : Nat) : Int)) % 2 ^ 8) = 48 + ((v.natAbs % 10 : Nat) : Int) := Int.emod_eq_of_lt (by omega) (by omega)
        simp [this]
        try omega
      rw [e1, ht, need_true (p := room (L.length + [((48 + v.natAbs % 10 : Nat) : Int)].length) 1) (show room (L.length + 1) 1 from ⟨by omega, by omega⟩)]
      refine hk _ ⟨?_, ?_, ?_, ?_, ?_⟩ ?_
      · dsimp only; omega
      · dsimp only; intro hne; have := hsg hz; rw [← this]; omega
      · dsimp only
        rw [htn, List.length_append, List.length_singleton, Nat.pow_succ]
        refine Nat.le_trans ?_ hp
        rw [Nat.mul_comm (10 ^ L.length) 10, ← Nat.mul_assoc]
        exact Nat.mul_le_mul_right _ (Nat.div_mul_le_self _ _)
      · simp; omega
      · dsimp only
        rw [hd, htn, dg0_step (by omega : v.natAbs ≠ 0)]
        simp only [bytesI, List.reverse_append, List.reverse_singleton, List.singleton_append, List.map_cons, Int.toNat_natCast, List.append_assoc]
      · dsimp only; rw [htn]; omega
    have hm : (Int.tmod v 10).natAbs = v.natAbs % 10 := by omega
    by_cases hneg : Int.tmod v 10 < 0
    · rw [decide_eq_true hneg, bif_t]
      exact key _ (by rw [w64_id (by omega)]; omega)
    · rw [decide_eq_false hneg, bif_f]
      exact key _ (by omega)
end Go.Ab
/- Sums of lines (own text). -/
set_option linter.unusedVariables false
set_option linter.unusedSimpArgs false
namespace Go.Ab
open Go.RowKit
open Go.Lib (itoa decDigits)
def crc1 (v : Int) : Int := bif decide ((65535 : Int) < w64 (v * 2 ^ (min ((1 : Int)).toNat (IntKind.bits .i64)))) then bitXor .i64 (bitAnd .i64 (w64 (v * 2 ^ (min ((1 : Int)).toNat (IntKind.bits .i64)))) 65535) 4129 else w64 (v * 2 ^ (min ((1 : Int)).toNat (IntKind.bits .i64)))
def crcB (v : Int) (b : UInt8) : Int := crc1 (crc1 (crc1 (crc1 (crc1 (crc1 (crc1 (crc1 (bitXor .i64 v (w64 ((w64 ((b.toNat : Int))) * 2 ^ (min ((8 : Int)).toNat (IntKind.bits .i64))))))))))))
theorem iter8 {R : Type} {body : (Int × Int → Option R) → Int × Int → Option R} {fin : Int → Option R} (h1 : ∀ k x (j : Nat), j < 8 → body k (x, (j : Int)) = k (crc1 x, ((j + 1 : Nat) : Int))) (h2 : ∀ k x, body k (x, 8) = fin x) (x : Int) :
    loop body (x, 0) = fin (crc1 (crc1 (crc1 (crc1 (crc1 (crc1 (crc1 (crc1 x)))))))) := by
  have key : ∀ m : Nat, iter body (m + 9) (x, 0) = fin (crc1 (crc1 (crc1 (crc1 (crc1 (crc1 (crc1 (crc1 x)))))))) := by
    intro m
    have s0 := h1 (iter body (m + 8)) x 0 (by omega)
    have s1 := h1 (iter body (m + 7)) (crc1 x) 1 (by omega)
    have s2 := h1 (iter body (m + 6)) (crc1 (crc1 x)) 2 (by omega)
    have s3 := h1 (iter body (m + 5)) (crc1 (crc1 (crc1 x))) 3 (by omega)
    have s4 := h1 (iter body (m + 4)) (crc1 (crc1 (crc1 (crc1 x)))) 4 (by omega)
    have s5 := h1 (iter body (m + 3)) (crc1 (crc1 (crc1 (crc1 (crc1 x))))) 5 (by omega)
    have s6 := h1 (iter body (m + 2)) (crc1 (crc1 (crc1 (crc1 (crc1 (crc1 x)))))) 6 (by omega)
    have s7 := h1 (iter body (m + 1)) (crc1 (crc1 (crc1 (crc1 (crc1 (crc1 (crc1 x))))))) 7 (by omega)
    have s8 := h2 (iter body m) (crc1 (crc1 (crc1 (crc1 (crc1 (crc1 (crc1 (crc1 x))))))))
    exact s0.trans (s1.trans (s2.trans (s3.trans (s4.trans (s5.trans (s6.trans (s7.trans s8)))))))
  exact key (lim - 9)
theorem crc_loop {R : Type} {body : (Int × Int → Option R) → Int × Int → Option R} {s : List UInt8} {fin : Int → R} (hs : s.length ≤ 9223372036854775807)
    (h1 : ∀ k x (i : Nat) b, s[i]? = some b → i < 9223372036854775807 → body k (x, (i : Int)) = k (crcB x b, ((i + 1 : Nat) : Int))) (h2 : ∀ k x, body k (x, (s.length : Int)) = some (fin x)) (x : Int) : loop body (x, 0) = some (fin (s.foldl crcB x)) := by
  suffices H : ∃ r, loop body (x, 0) = some r ∧ r = fin (s.foldl crcB x) by
    obtain ⟨r, e, hr⟩ := H
    rw [e, hr]
  refine loop_ex (L := s) (fun i st => st.2 = (i : Int) ∧ s.foldl crcB x = (s.drop i).foldl crcB st.1) hs ⟨rfl, rfl⟩ ?_ ?_
  · rintro i ⟨v, j⟩ k b hb hi ⟨rfl, hv⟩ hk
    rw [h1 k v i b hb hi]
    refine hk _ ⟨rfl, ?_⟩
    rw [hv, drop_cons hb]; rfl
  · rintro ⟨v, j⟩ k ⟨rfl, hv⟩
    rw [h2]
    refine ⟨_, rfl, ?_⟩
    rw [hv, List.drop_length]; rfl
theorem l01Crc_eq (s : List UInt8) (v : Int) (hs : s.length ≤ 9223372036854775807) : F_spec_l01Crc s v = some (s.foldl crcB v) := by
  unfold F_spec_l01Crc
  refine crc_loop (fin := fun x => x) hs ?_ ?_ v
  · intro k x i b hb hi
    simp only [F_spec_l01Crc_l0, int_lt (get_lt hb), ix_get hb, Option.bind_some, bif_t]
    rw [need_true (by decide)]
    rw [iter8 (fin := fun y => k (y, ((i + 1 : Nat) : Int)))]
    · rfl
    · intro k2 y j hj
      simp only [F_spec_l01Crc_l1]
      rw [decide_eq_true (by omega), bif_t, need_true (by decide), w64_succ (by omega)]
      unfold crc1
      cases decide ((65535 : Int) < w64 (y * 2 ^ (min ((1 : Int)).toNat (IntKind.bits .i64)))) <;> rfl
    · intro k2 y
      simp only [F_spec_l01Crc_l1]
      rw [decide_eq_false (by omega), bif_f, w64_succ hi]
  · intro k x
    simp only [F_spec_l01Crc_l0, int_lt_self, bif_f]
theorem Crc16_eq (s : List UInt8) (hs : s.length ≤ 9223372036854775807) : F_impl_Crc16 s 65535 = some (s.foldl crcB 65535) := by
  unfold F_impl_Crc16
  rw [show F_impl_within 65535 0 65535 = some true from rfl]
  simp only [Option.bind_some, Bool.not_true, bif_f]
  refine crc_loop (fin := fun x => x) hs ?_ ?_ 65535
  · intro k x i b hb hi
    simp only [F_impl_Crc16_l2, int_lt (get_lt hb), ix_get hb, Option.bind_some, bif_t]
    rw [need_true (by decide)]
    rw [iter8 (fin := fun y => k (y, ((i + 1 : Nat) : Int)))]
    · rfl
    · intro k2 y j hj
      simp only [F_impl_Crc16_l3]
      rw [decide_eq_true (by omega), bif_t, need_true (by decide), w64_succ (by omega)]
      unfold crc1
      cases decide ((65535 : Int) < w64 (y * 2 ^ (min ((1 : Int)).toNat (IntKind.bits .i64)))) <;> rfl
    · intro k2 y
      simp only [F_impl_Crc16_l3]
      rw [decide_eq_false (by omega), bif_f, w64_succ hi]
  · intro k x
    simp only [F_impl_Crc16_l2, int_lt_self, bif_f]
theorem xor_rng {a b : Int} (ha : 0 ≤ a ∧ a ≤ 65535) (hb : 0 ≤ b ∧ b ≤ 65535) : 0 ≤ bitXor .i64 a b ∧ bitXor .i64 a b ≤ 65535 := by
  obtain ⟨m, rfl⟩ : ∃ m : Nat, a = (m : Int) := ⟨a.toNat, by omega⟩
  obtain ⟨n, rfl⟩ : ∃ n : Nat, b = (n : Int) := ⟨b.toNat, by omega⟩
  unfold bitXor
  have h1 : (BitVec.ofInt (IntKind.bits .i64) (m : Int) ^^^ BitVec.ofInt (IntKind.bits .i64) (n : Int)).toNat = m ^^^ n := by
    have t : ∀ k : Nat, k ≤ 65535 → (BitVec.ofInt (IntKind.bits .i64) (k : Int)).toNat = k := by
      intro k hk
      rw [BitVec.toNat_ofInt]
      show ((k : Int) % (2 ^ 64 : Nat)).toNat = k
      omega
    rw [BitVec.toNat_xor, t m (by omega), t n (by omega)]
  have h2 : m ^^^ n < 2 ^ 16 := Nat.xor_lt_two_pow (by omega) (by omega)
  rw [h1]
  have : IntKind.wrap .i64 ((m ^^^ n : Nat) : Int) = ((m ^^^ n : Nat) : Int) := w64_id (by omega)
  rw [this]
  omega
theorem and_rng (a : Int) : 0 ≤ bitAnd .i64 a 65535 ∧ bitAnd .i64 a 65535 ≤ 65535 := by
  unfold bitAnd
  have h2 : (BitVec.ofInt (IntKind.bits .i64) a &&& BitVec.ofInt (IntKind.bits .i64) 65535).toNat < 2 ^ 16 := by
    rw [BitVec.toNat_and]
    exact Nat.and_lt_two_pow _ (by decide)
  have : IntKind.wrap .i64 ((BitVec.ofInt (IntKind.bits .i64) a &&& BitVec.ofInt (IntKind.bits .i64) 65535).toNat : Int) = ((BitVec.ofInt (IntKind.bits .i64) a &&& BitVec.ofInt (IntKind.bits .i64) 65535).toNat : Int) := w64_id (by omega)
  rw [this]
  omega
theorem crc1_rng {v : Int} (h : 0 ≤ v ∧ v ≤ 65535) : 0 ≤ crc1 v ∧ crc1 v ≤ 65535 := by
  unfold crc1
  have e : v * 2 ^ (min ((1 : Int)).toNat (IntKind.bits .i64)) = v * 2 := rfl
  rw [e, w64_id (by omega)]
  cases hd : decide ((65535 : Int) < v * 2)
  · have := of_decide_eq_false hd
    rw [bif_f]; omega
  · rw [bif_t]; exact xor_rng (and_rng _) (by decide)
theorem crcB_rng {v : Int} (b : UInt8) (h : 0 ≤ v ∧ v ≤ 65535) : 0 ≤ crcB v b ∧ crcB v b ≤ 65535 := by
  unfold crcB
  have hb : b.toNat < 256 := UInt8.toNat_lt b
  have e : w64 ((w64 ((b.toNat : Int))) * 2 ^ (min ((8 : Int)).toNat (IntKind.bits .i64))) = (b.toNat : Int) * 256 := by
    have e : (2 : Int) ^ (min ((8 : Int)).toNat (IntKind.bits .i64)) = 256 := rfl
    rw [e, w64_id (by omega : -9223372036854775808 ≤ (b.toNat : Int) ∧ _), w64_id (by omega)]
  rw [e]
  exact crc1_rng (crc1_rng (crc1_rng (crc1_rng (crc1_rng (crc1_rng (crc1_rng (crc1_rng (xor_rng h ⟨by omega, by omega⟩))))))))
theorem crc_rng (s : List UInt8) : ∀ {v : Int}, 0 ≤ v ∧ v ≤ 65535 → 0 ≤ s.foldl crcB v ∧ s.foldl crcB v ≤ 65535 := by
  induction s with
  | nil => intro v h; exact h
  | cons b t ih => intro v h; exact ih (crcB_rng b h)
/-- The five digits of a line's sum. -/
def five (s : List UInt8) : List UInt8 := Go.Lib.repeatL [48] (5 - (itoa (s.foldl crcB 65535)).length) ++ itoa (s.foldl crcB 65535)
theorem itoa5 {n : Int} (h : 0 ≤ n ∧ n ≤ 65535) : (itoa n).length ≤ 5 := by
  unfold itoa
  rw [if_neg (by omega)]
  exact dig_len 4 _ (by omega)
theorem pad_loop : ∀ (m : Nat) (t : List UInt8), t.length + m = 5 → loop F_spec_l29Five_l0 t = some (Go.Lib.repeatL [48] m ++ t) := by
  intro m t h
  have key : ∀ (m : Nat) (t : List UInt8) (n : Nat), t.length + m = 5 → m < n → iter F_spec_l29Five_l0 n t = some (Go.Lib.repeatL [48] m ++ t) := by
    intro m
    induction m with
    | zero =>
      intro t n h hn
      obtain ⟨n, rfl⟩ : ∃ n', n = n' + 1 := ⟨n - 1, by omega⟩
      show F_spec_l29Five_l0 (iter F_spec_l29Five_l0 n) t = _
      simp only [F_spec_l29Five_l0]
      rw [decide_eq_false (by omega), bif_f]
      rfl
    | succ m ih =>
      intro t n h hn
      obtain ⟨n, rfl⟩ : ∃ n', n = n' + 1 := ⟨n - 1, by omega⟩
      show F_spec_l29Five_l0 (iter F_spec_l29Five_l0 n) t = _
      simp only [F_spec_l29Five_l0]
      rw [decide_eq_true (by omega), bif_t, need_true (by simp; omega), ih _ n (by simp; omega) (by omega)]
      have : ∀ m : Nat, Go.Lib.repeatL [48] m ++ [48] = 48 :: Go.Lib.repeatL [48] m := by
        intro m
        induction m with
        | zero => rfl
        | succ m ih => simp only [Go.Lib.repeatL, List.cons_append, List.nil_append, ih]
      rw [← List.append_assoc, this]; rfl
  exact key m t lim h (lt_lim (by omega))
theorem five_eq (s : List UInt8) : F_spec_l29Five (s.foldl crcB 65535) = some (five s) := by
  have hr := crc_rng s (v := 65535) (by decide)
  have h5 := itoa5 hr
  unfold F_spec_l29Five
  rw [l01Dec_eq _ (by omega), Option.bind_some, pad_loop (5 - (itoa (s.foldl crcB 65535)).length) _ (by omega)]
  rfl
theorem checkText_eq (s : List UInt8) (hs : s.length ≤ 9223372036854775807) : F_impl_checkText s = some (five s) := by
  have hr := crc_rng s (v := 65535) (by decide)
  have h5 := itoa5 hr
  unfold F_impl_checkText F_impl_Decimal F_formatInt F_repeat
  rw [Crc16_eq s hs]
  simp only [Option.bind_some]
  rw [need_true ⟨by decide, by omega, by omega⟩]
  simp only [Option.bind_some]
  have e : w64 (5 - ((itoa (s.foldl crcB 65535)).length : Int)) = ((5 - (itoa (s.foldl crcB 65535)).length : Nat) : Int) := by rw [w64_id (by omega)]; omega
  rw [e, need_true ⟨by omega, by omega, by simp; omega⟩]
  simp only [Option.bind_some, Int.toNat_natCast]
  rw [need_true (by rw [Go.Lib.repeatL_length]; simp; omega)]
  rfl
theorem five_len (s : List UInt8) : (five s).length = 5 := by
  have h5 := itoa5 (crc_rng s (v := 65535) (by decide))
  unfold five
  rw [List.length_append, Go.Lib.repeatL_length]; simp; omega
end Go.Ab
/- A line of a library's text read as a block (own text). -/
set_option linter.unusedVariables false
set_option linter.unusedSimpArgs false
namespace Go.Ab
open Go.RowKit
theorem scan_loop {ρ : Type} {body : (Int → Option ρ) → Int → Option ρ} {s : List UInt8} (c : UInt8) {fin : Int → Option ρ} (hs : s.length ≤ 9223372036854775807)
    (step : ∀ k (i : Nat) b, s[i]? = some b → i < 9223372036854775807 → body k (i : Int) = bif decide (b = c) then fin (i : Int) else k ((i + 1 : Nat) : Int))
    (done : ∀ k (i : Nat), s.length ≤ i → body k (i : Int) = fin (i : Int)) (a : Nat) : loop body (a : Int) = fin ((a + ((s.drop a).takeWhile (fun x => !decide (x = c))).length : Nat) : Int) := by
  have key : ∀ (m a n : Nat), s.length - a ≤ m → m < n → iter body n (a : Int) = fin ((a + ((s.drop a).takeWhile (fun x => !decide (x = c))).length : Nat) : Int) := by
    intro m
    induction m with
    | zero =>
      intro a n h hn
      obtain ⟨n, rfl⟩ : ∃ n', n = n' + 1 := ⟨n - 1, by omega⟩
      show body (iter body n) _ = _
      rw [done _ _ (by omega), List.drop_eq_nil_of_le (by omega)]
      simp
    | succ m ih =>
      intro a n h hn
      obtain ⟨n, rfl⟩ : ∃ n', n = n' + 1 := ⟨n - 1, by omega⟩
      show body (iter body n) _ = _
      by_cases ha : a < s.length
      · obtain ⟨x, hx⟩ := get_some ha
        rw [step _ _ _ hx (by omega), drop_cons hx]
        by_cases hc : x = c
        · rw [decide_eq_true hc, bif_t, List.takeWhile_cons]; simp [hc]
        · rw [decide_eq_false hc, bif_f, ih (a + 1) n (by omega) (by omega), List.takeWhile_cons]
          simp only [hc, decide_false, Bool.not_false, if_true, List.length_cons]
          congr 1; omega
      · rw [done _ _ (by omega), List.drop_eq_nil_of_le (by omega)]
        simp
  exact key s.length a lim (by omega) (lt_lim hs)
theorem tw_split (c : UInt8) : ∀ s : List UInt8, (c ∈ s → s = s.takeWhile (fun x => !decide (x = c)) ++ c :: (s.dropWhile (fun x => !decide (x = c))).tail) ∧ (c ∉ s → s.takeWhile (fun x => !decide (x = c)) = s ∧ s.dropWhile (fun x => !decide (x = c)) = [])
  | [] => by simp
  | x :: s => by
    obtain ⟨h1, h2⟩ := tw_split c s
    by_cases hx : x = c
    · subst hx; simp
    · have hcx : ¬ c = x := fun e => hx e.symm
      simp only [List.takeWhile_cons, List.dropWhile_cons, hx, decide_false, Bool.not_false, if_true, List.mem_cons, hcx, false_or, List.cons_append, List.cons.injEq, true_and]
      exact ⟨h1, h2⟩
/-- The three parts of a line behind its sum. -/
def parts (r : List UInt8) : Option TBlock := bif (cutA 32 (cutA 32 r).2.1).2.2 then some ((cutA 32 r).1, (cutA 32 (cutA 32 r).2.1).1, (cutA 32 (cutA 32 r).2.1).2.1) else none
def noBlk (n : Int) : TBlock × Int := (([], [], []), n)
def blkEnd (o : Option TBlock) : TBlock × Int := match o with
  | none => noBlk 9
  | some b => bif blkOk b then (b, 0) else noBlk 9
/-- A line read. -/
def blkOf (s : List UInt8) : TBlock × Int := if s.length < 6 then noBlk 9 else if s[5]? ≠ some 32 then noBlk 9 else if s.take 5 ≠ five (s.drop 6) then noBlk 10 else blkEnd (parts (s.drop 6))
theorem cutA_len (c : UInt8) (s : List UInt8) : (cutA c s).1.length ≤ s.length ∧ (cutA c s).2.1.length ≤ s.length := by
  constructor
  · exact (List.takeWhile_prefix _).length_le
  · show (List.tail _).length ≤ _
    rw [List.length_tail]
    have := (List.dropWhile_suffix (l := s) (fun x => !decide (x = c))).length_le
    omega
theorem ix_five {s : List UInt8} (h : 6 ≤ s.length) : ∃ x, ix s 5 = some x ∧ s[5]? = some x := by
  obtain ⟨x, hx⟩ := get_some (L := s) (n := 5) (by omega)
  exact ⟨x, ix_get hx, hx⟩
theorem sub_six (s : List UInt8) : sub s 6 (s.length : Int) = s.drop 6 := by
  have := sub_nat s 6 s.length
  rw [take_all (Nat.le_refl _)] at this
  exact this
theorem sub_first (s : List UInt8) : sub s 0 5 = s.take 5 := sub_nat s 0 5
theorem b32 (x : UInt8) : ((x.toNat : Int) = 32) ↔ x = 32 := by
  constructor
  · intro h; exact UInt8.toNat_inj.1 (by show x.toNat = 32; omega)
  · rintro rfl; rfl
theorem parse_tail (s : List UInt8) (hs : s.length ≤ 2000000) : loop (F_spec_l29Parse_l2 s) 0 = some (blkEnd (parts (s.drop 6))) := by
  generalize hr : s.drop 6 = r
  have hrl : r.length ≤ 2000000 := by rw [← hr, List.length_drop]; omega
  have e6 : sub s 6 (s.length : Int) = r := by rw [sub_six, hr]
  have j3 : ∀ (p q : Nat), p + 1 ≤ q → F_spec_l29Parse_j3 s (p : Int) (q : Int) = if r.length ≤ q then some (noBlk 9) else some (blkEnd (some (r.take p, (r.take q).drop (p + 1), r.drop (q + 1)))) := by
    intro p q hpq
    unfold F_spec_l29Parse_j3
    simp only [e6]
    by_cases h : r.length ≤ q
    · rw [decide_eq_true (by omega), bif_t, if_pos h]; rfl
    · have e0 : sub r 0 (p : Int) = r.take p := sub_nat r 0 p
      have e1 : sub r ((p + 1 : Nat) : Int) (q : Int) = (r.take q).drop (p + 1) := sub_nat r _ _
      have e2 : sub r ((q + 1 : Nat) : Int) (r.length : Int) = r.drop (q + 1) := by rw [sub_nat, take_all (Nat.le_refl _)]
      rw [decide_eq_false (by omega), bif_f, if_neg h, w64_succ (by omega), w64_succ (by omega), need_true ⟨by omega, by omega, by omega⟩, need_true ⟨by omega, by omega, by omega⟩, need_true ⟨by omega, by omega, by omega⟩, e0, e1, e2,
        l29One_eq _ (by simp; omega) (by simp; omega) (by simp; omega)]
      simp only [Option.bind_some, blkEnd, noBlk]
      cases blkOk (r.take p, (r.take q).drop (p + 1), r.drop (q + 1)) <;> rfl
  have l4 : ∀ p : Nat, p ≤ 2000000 → F_spec_l29Parse_j1 s (p : Int) = F_spec_l29Parse_j3 s (p : Int) ((p + 1 + ((r.drop (p + 1)).takeWhile (fun x => !decide (x = 32))).length : Nat) : Int) := by
    intro p hp
    unfold F_spec_l29Parse_j1
    rw [w64_succ (by omega)]
    refine scan_loop (fin := F_spec_l29Parse_j3 s (p : Int)) 32 (s := r) (by omega) ?_ ?_ (p + 1)
    · intro k i b hb hi
      simp only [F_spec_l29Parse_l4, e6, int_lt (get_lt hb), ix_get hb, Option.bind_some, bif_t, w64_succ hi]
      by_cases h : b = 32
      · rw [decide_eq_true h, bif_t, decide_eq_false (by rw [h]; decide), bif_f]
      · rw [decide_eq_false h, bif_f, decide_eq_true (by rw [Ne, b32]; exact h), bif_t]
    · intro k i hi
      simp only [F_spec_l29Parse_l4, e6]
      rw [decide_eq_false (by omega), bif_f]
  have := scan_loop (body := F_spec_l29Parse_l2 s) (fin := F_spec_l29Parse_j1 s) 32 (s := r) (by omega) ?_ ?_ 0
  · refine this.trans ?_
    rw [List.drop_zero, Nat.zero_add]
    have tl := (List.takeWhile_prefix (l := r) (fun x => !decide (x = 32))).length_le
    rw [l4 _ (by omega), j3 _ _ (by omega)]
    obtain ⟨t1, t2⟩ := tw_split 32 r
    by_cases hc : (32 : UInt8) ∈ r
    · have hsp := t1 hc
      generalize hP : r.takeWhile (fun x => !decide (x = 32)) = P at *
      generalize hT : (r.dropWhile (fun x => !decide (x = 32))).tail = T at *
      have hd : r.drop (P.length + 1) = T := by rw [hsp]; simp
      have hP1 : r.take P.length = P := by rw [hsp]; simp
      have hlen : r.length = P.length + 1 + T.length := by rw [hsp]; simp; omega
      have cA : cutA 32 r = (P, T, true) := by unfold cutA; rw [hP, hT, decide_eq_true hc]
      rw [hd]
      unfold parts
      rw [cA]
      dsimp only
      obtain ⟨u1, u2⟩ := tw_split 32 T
      by_cases hc2 : (32 : UInt8) ∈ T
      · have hsp2 := u1 hc2
        have cB : cutA 32 T = (T.takeWhile (fun x => !decide (x = 32)), (T.dropWhile (fun x => !decide (x = 32))).tail, true) := by unfold cutA; rw [decide_eq_true hc2]
        rw [cB]
        generalize hP2 : T.takeWhile (fun x => !decide (x = 32)) = P2 at *
        generalize hT2 : (T.dropWhile (fun x => !decide (x = 32))).tail = T2 at *
        have hlen2 : T.length = P2.length + 1 + T2.length := by rw [hsp2]; simp; omega
        rw [if_neg (by omega)]
        dsimp only
        rw [bif_t, hP1]
        have e1 : (r.take (P.length + 1 + P2.length)).drop (P.length + 1) = P2 := by
          rw [List.drop_take, hd, hsp2]; simp
        have e2 : r.drop (P.length + 1 + P2.length + 1) = T2 := by
          have : r.drop (P.length + 1 + P2.length + 1) = (r.drop (P.length + 1)).drop (P2.length + 1) := by rw [List.drop_drop]; congr 1
          rw [this, hd, hsp2]; simp
        rw [e1, e2]
      · have cB : (cutA 32 T).2.2 = false := by show decide _ = false; exact decide_eq_false hc2
        rw [cB, (u2 hc2).1, if_pos (by omega)]
        rfl
    · have cA : cutA 32 r = (r, [], false) := by unfold cutA; rw [(t2 hc).1, (t2 hc).2, decide_eq_false hc]; rfl
      rw [(t2 hc).1, if_pos (by omega)]
      unfold parts
      rw [cA]
      rfl
  · intro k i b hb hi
    simp only [F_spec_l29Parse_l2, e6, int_lt (get_lt hb), ix_get hb, Option.bind_some, bif_t, w64_succ hi]
    by_cases h : b = 32
    · rw [decide_eq_true h, bif_t, decide_eq_false (by rw [h]; decide), bif_f]
    · rw [decide_eq_false h, bif_f, decide_eq_true (by rw [Ne, b32]; exact h), bif_t]
  · intro k i hi
    simp only [F_spec_l29Parse_l2, e6]
    rw [decide_eq_false (by omega), bif_f]
theorem l29Parse_eq (s : List UInt8) (hs : s.length ≤ 2000000) : F_spec_l29Parse s = some (blkOf s) := by
  unfold F_spec_l29Parse blkOf
  by_cases h6 : s.length < 6
  · rw [decide_eq_true (by omega), bif_t, if_pos h6]; rfl
  rw [decide_eq_false (by omega), bif_f, if_neg h6]
  obtain ⟨x, hx, hx5⟩ := ix_five (s := s) (by omega)
  rw [hx, Option.bind_some, hx5]
  by_cases h32 : x = 32
  · subst h32
    rw [decide_eq_false (by simp), bif_f, need_true ⟨by omega, by omega, by omega⟩, need_true ⟨by omega, by omega, by omega⟩, sub_six, l01Crc_eq _ _ (by simp; omega), Option.bind_some, five_eq, Option.bind_some, sub_first, if_neg (by simp), parse_tail s hs, bif_dec]
    split <;> rfl
  · rw [decide_eq_true (by rw [Ne, b32]; exact h32), bif_t, if_pos (by simpa using h32)]; rfl
theorem blockOf_eq (s : List UInt8) (hs : s.length ≤ 2000000) : F_impl_blockOf s = some (blkOf s) := by
  unfold F_impl_blockOf blkOf
  by_cases h6 : s.length < 6
  · rw [decide_eq_true (by omega), bif_t, if_pos h6]; rfl
  rw [decide_eq_false (by omega), bif_f, if_neg h6]
  obtain ⟨x, hx, hx5⟩ := ix_five (s := s) (by omega)
  rw [hx, Option.bind_some, hx5]
  by_cases h32 : x = 32
  · subst h32
    rw [decide_eq_false (by simp)]
    unfold F_impl_blockOf_j1
    rw [bif_f, need_true ⟨by omega, by omega, by omega⟩, need_true ⟨by omega, by omega, by omega⟩, sub_six, checkText_eq _ (by simp; omega), Option.bind_some, sub_first, if_neg (by simp), bif_dec]
    split
    · rfl
    · unfold F_impl_blockOf_j0
      have hl : (s.drop 6).length ≤ 2000000 := by simp; omega
      obtain ⟨c1, c2⟩ := cutA_len 32 (s.drop 6)
      obtain ⟨c3, c4⟩ := cutA_len 32 (cutA 32 (s.drop 6)).2.1
      rw [need_true ⟨by omega, by omega, by omega⟩, sub_six, F_cut_eq _ (by omega), Option.bind_some, F_cut_eq _ (by omega), Option.bind_some]
      unfold parts
      cases h : (cutA 32 (cutA 32 (s.drop 6)).2.1).2.2
      · rfl
      · rw [Bool.not_true, bif_f, bif_t, ValidBlock_eq _ (by dsimp only; omega) (by dsimp only; omega), Option.bind_some]
        dsimp only [blkEnd]
        cases blkOk ((cutA 32 (s.drop 6)).1, (cutA 32 (cutA 32 (s.drop 6)).2.1).1, (cutA 32 (cutA 32 (s.drop 6)).2.1).2.1) <;> rfl
  · rw [decide_eq_true (by rw [Ne, b32]; exact h32), if_pos (by simpa using h32)]; rfl
end Go.Ab
/- ValidBlocks: the program's and the reference's (own text). -/
set_option linter.unusedVariables false
set_option linter.unusedSimpArgs false
namespace Go.Ab
open Go.RowKit
def cmpS (a b : List UInt8) : Int := if Op.bytesLess a b = true then -1 else if a = b then 0 else 1
theorem Compare_eq (a b : List UInt8) : F_cmp_Compare_string a b = some (cmpS a b) := by
  unfold F_cmp_Compare_string F_cmp_isNaN_string cmpS
  cases h : Op.bytesLess a b <;> by_cases h2 : a = b <;> simp [h2]
theorem Or_eq (x y : Int) : F_cmp_Or_int [x, y] = some (if x = 0 then y else x) := by
  unfold F_cmp_Or_int
  have := loop_sfx (body := F_cmp_Or_int_l0 [x, y]) (L := [x, y]) (fun t => (t.find? (fun z => decide (z ≠ 0))).getD 0) (by simp) ?_ ?_
  · rw [this]
    by_cases h1 : x = 0 <;> by_cases h2 : y = 0 <;> simp [h1, h2]
  · intro i k a t ha hi hk
    simp only [F_cmp_Or_int_l0, int_lt (get_lt ha), bif_t, ix_get ha, Option.bind_some, w64_succ hi, bif_dec, hk]
    by_cases h : a = 0 <;> simp [h]
  · intro k
    simp only [F_cmp_Or_int_l0, int_lt_self, bif_f]
    rfl
/-- How blocks are ordered. -/
def blkBef (a b : TBlock) : Bool := Op.bytesLess a.1 b.1 || (decide (a.1 = b.1) && Op.bytesLess a.2.1 b.2.1)
def blkCmp (a b : TBlock) : Int := if cmpS a.1 b.1 = 0 then cmpS a.2.1 b.2.1 else cmpS a.1 b.1
theorem compareBlocks_eq (a b : TBlock) : F_impl_compareBlocks a b = some (blkCmp a b) := by
  unfold F_impl_compareBlocks blkCmp
  simp only [Compare_eq, Option.bind_some, Or_eq]
theorem cmpS_zero (a b : List UInt8) : cmpS a b = 0 ↔ a = b := by
  unfold cmpS
  by_cases h : Op.bytesLess a b = true
  · rw [if_pos h]
    constructor
    · intro h; omega
    · rintro rfl; rw [bytes_irrefl] at h; cases h
  · rw [if_neg h]
    by_cases h2 : a = b
    · simp [h2]
    · rw [if_neg h2]; constructor
      · intro h; omega
      · intro h; exact absurd h h2
theorem cmpS_neg (a b : List UInt8) : cmpS a b < 0 ↔ Op.bytesLess a b = true := by
  unfold cmpS
  by_cases h : Op.bytesLess a b = true
  · rw [if_pos h]; simp [h]
  · rw [if_neg h]
    constructor
    · intro h3; exfalso; split at h3 <;> omega
    · intro h3; exact absurd h3 h
theorem blkCmp_bef (a b : TBlock) : decide (0 ≤ blkCmp a b) = !blkBef a b := by
  have e : blkBef a b = true ↔ blkCmp a b < 0 := by
    unfold blkBef blkCmp
    by_cases h : a.1 = b.1
    · rw [if_pos ((cmpS_zero _ _).2 h), cmpS_neg, h, bytes_irrefl]; simp
    · rw [if_neg (fun e => h ((cmpS_zero _ _).1 e)), cmpS_neg]; simp [h]
  cases h : blkBef a b
  · exact decide_eq_true (by have : ¬ blkCmp a b < 0 := fun h2 => by rw [e.2 h2] at h; cases h
                             omega)
  · exact decide_eq_false (by have := e.1 h; omega)
theorem l29Before_eq (a b : TBlock) : F_spec_l29Before a b = some (blkBef a b) := by
  unfold F_spec_l29Before blkBef
  cases Op.bytesLess a.1 b.1 <;> by_cases h : a.1 = b.1 <;> simp [h]
abbrev OkBlocks (A : List TBlock) : Prop := OkL OkBlock A
def blksOk (A : List TBlock) : Bool := adj blkOk blkBef none A && decide ((A.length : Int) ≤ 32)
theorem int_pos' (n : Nat) : decide ((0 : Int) < ((n + 1 : Nat) : Int)) = true := decide_eq_true (by omega)
theorem ValidBlocks_eq {A : List TBlock} (oA : OkBlocks A) : F_impl_ValidBlocks A = some (blksOk A) := by
  unfold F_impl_ValidBlocks
  rw [bif_dec]
  split
  · rename_i hc
    have : decide ((A.length : Int) ≤ 32) = false := decide_eq_false (by omega)
    simp [blksOk, this]
  · rename_i hc
    have : decide ((A.length : Int) ≤ 32) = true := decide_eq_true (by omega)
    rw [blksOk, this]
    refine loop_adj oA.1 ?_ ?_ ?_
    · intro k a ha
      have o := oA.2 a (get_mem ha)
      have hl : decide ((0 : Int) < (A.length : Int)) = true := decide_eq_true (by have := get_lt ha; omega)
      have hix : ix A 0 = some a := by have := ix_get ha; exact this
      simp only [F_impl_ValidBlocks_l0, hl, bif_t, hix, Option.bind_some, ValidBlock_eq a o.1 o.2.1, Int.lt_irrefl, decide_false, bif_f]
      cases blkOk a <;> rfl
    · intro i k q a hq ha hi
      have o := oA.2 a (get_mem ha)
      simp only [F_impl_ValidBlocks_l0, int_lt (get_lt ha), bif_t, ix_get ha, Option.bind_some, ValidBlock_eq a o.1 o.2.1, int_pos', w64_pred (show i < 9223372036854775807 by omega), ix_get hq, compareBlocks_eq, w64_succ hi, blkCmp_bef]
      cases blkOk a <;> cases blkBef q a <;> rfl
    · intro k
      simp only [F_impl_ValidBlocks_l0, int_lt_self, bif_f]
end Go.Ab
/- Searching by halves (own text). -/
set_option linter.unusedVariables false
set_option linter.unusedSimpArgs false
namespace Go.Ab
open Go.RowKit
theorem half_eq (i j : Nat) (h : i + j ≤ 9223372036854775807) : w64 (Int.fdiv (IntKind.wrap .u64 (w64 ((i : Int) + (j : Int)))) (2 ^ (min ((1 : Int)).toNat (IntKind.bits .u64)))) = (((i + j) / 2 : Nat) : Int) := by
  have e1 : w64 ((i : Int) + (j : Int)) = ((i + j : Nat) : Int) := by rw [w64_id (by omega)]; omega
  have e2 : IntKind.wrap .u64 ((i + j : Nat) : Int) = ((i + j : Nat) : Int) := by
    simp only [IntKind.wrap, IntKind.signed, IntKind.bits]
    have : (((i + j : Nat) : Int) % 2 ^ 64) = ((i + j : Nat) : Int) := Int.emod_eq_of_lt (by omega) (by omega)
    simp [this]
    try omega
  rw [e1, e2]
  have e3 : (2 : Int) ^ (min ((1 : Int)).toNat (IntKind.bits .u64)) = 2 := rfl
  have e4 : Int.fdiv ((i + j : Nat) : Int) 2 = (((i + j) / 2 : Nat) : Int) := by
    rw [Int.fdiv_eq_ediv_of_nonneg _ (by omega)]
    omega
  rw [e3, e4, w64_id (by omega)]
/-- How many stand before. -/
def cut {α : Type} (c : α → Int) (A : List α) : Nat := (A.takeWhile fun x => decide (c x < 0)).length
theorem cut_le {α : Type} (c : α → Int) (A : List α) : cut c A ≤ A.length := by
  unfold cut
  exact (List.takeWhile_prefix _).length_le
theorem cut_lt {α : Type} {c : α → Int} : ∀ {A : List α} {k : Nat} {x : α}, A[k]? = some x → k < cut c A → c x < 0
  | [], k, x, h, _ => by simp at h
  | a :: A, k, x, h, hk => by
    unfold cut at hk
    rw [List.takeWhile_cons] at hk
    split at hk
    · rename_i ha
      cases k with
      | zero => simp at h; subst h; exact of_decide_eq_true ha
      | succ k => simp at h hk; exact cut_lt (A := A) h hk
    · simp at hk
theorem cut_at {α : Type} {c : α → Int} : ∀ {A : List α} {x : α}, A[cut c A]? = some x → ¬ c x < 0
  | [], x, h => by simp at h
  | a :: A, x, h => by
    unfold cut at h
    rw [List.takeWhile_cons] at h
    split at h
    · simp at h; exact cut_at (A := A) h
    · rename_i ha
      simp at h; subst h
      intro h2; exact ha (decide_eq_true h2)
theorem loop_search {α R : Type} {A : List α} {c : α → Int} {body : (Int × Int → Option R) → Int × Int → Option R} (fin : Nat → R) (hA : A.length ≤ 4611686018427387903)
    (mono : ∀ (i j : Nat) x y, i < j → A[i]? = some x → A[j]? = some y → c y < 0 → c x < 0)
    (step : ∀ (i j : Nat) k x, i < j → j ≤ A.length → A[(i + j) / 2]? = some x → body k ((i : Int), (j : Int)) = bif decide (c x < 0) then k ((((i + j) / 2 + 1 : Nat) : Int), (j : Int)) else k ((i : Int), (((i + j) / 2 : Nat) : Int)))
    (done : ∀ (i : Nat) k, i ≤ A.length → body k ((i : Int), (i : Int)) = some (fin i)) : loop body (0, (A.length : Int)) = some (fin (cut c A)) := by
  have below : ∀ (i : Nat) x, A[i]? = some x → c x < 0 → i < cut c A := by
    intro i x hx hc
    rcases Nat.lt_or_ge i (cut c A) with h | h
    · exact h
    · exfalso
      obtain ⟨y, hy⟩ := get_some (L := A) (n := cut c A) (by have := get_lt hx; omega)
      have hn := cut_at hy
      rcases Nat.lt_or_ge (cut c A) i with h2 | h2
      · exact hn (mono _ _ y x h2 hy hx hc)
      · have : i = cut c A := by omega
        subst this
        rw [hx] at hy; cases hy
        exact hn hc
  obtain ⟨r, e, hr⟩ := loop_mu (body := body) (s0 := ((0 : Int), (A.length : Int))) (Q := fun r => r = fin (cut c A))
    (fun s => ∃ i j : Nat, s = ((i : Int), (j : Int)) ∧ i ≤ cut c A ∧ cut c A ≤ j ∧ j ≤ A.length) (fun s => (s.2 - s.1).toNat) ⟨0, A.length, rfl, Nat.zero_le _, cut_le c A, Nat.le_refl _⟩ (lt_lim (by simp; omega))
    (by
      rintro _ k ⟨i, j, rfl, h1, h2, h3⟩ hk
      by_cases hij : i < j
      · obtain ⟨x, hx⟩ := get_some (L := A) (n := (i + j) / 2) (by omega)
        rw [step i j k x hij h3 hx, bif_dec]
        split
        · rename_i hc
          have := below _ x hx hc
          exact hk _ ⟨(i + j) / 2 + 1, j, rfl, by omega, h2, h3⟩ (by simp; omega)
        · rename_i hc
          refine hk _ ⟨i, (i + j) / 2, rfl, h1, ?_, by omega⟩ (by simp; omega)
          rcases Nat.lt_or_ge ((i + j) / 2) (cut c A) with h | h
          · exact absurd (cut_lt hx h) hc
          · exact h
      · have : i = j := by omega
        subst this
        have : i = cut c A := by omega
        refine ⟨_, done i k h3, by rw [this]⟩)
  rw [e, hr]
end Go.Ab
/- Valid blocks stand in order; searching them (own text). -/
set_option linter.unusedVariables false
set_option linter.unusedSimpArgs false
namespace Go.Ab
open Go.RowKit
theorem adj_all {α : Type} {one : α → Bool} {bef : α → α → Bool} : ∀ {A : List α} {p : Option α}, adj one bef p A = true → (∀ x ∈ A, one x = true) ∧ (∀ (i : Nat) x y, A[i]? = some x → A[i + 1]? = some y → bef x y = true)
  | [], p, h => by simp
  | a :: A, p, h => by
    have h2 : one a = true ∧ adj one bef (some a) A = true := by
      cases p with
      | none => simpa [adj] using h
      | some q => simp [adj] at h; exact ⟨h.1, h.2.2⟩
    obtain ⟨k1, k2⟩ := adj_all (A := A) h2.2
    refine ⟨fun x hx => ?_, fun i x y hx hy => ?_⟩
    · rcases List.mem_cons.1 hx with h | h
      · rw [h]; exact h2.1
      · exact k1 x h
    · cases i with
      | zero =>
        simp at hx hy; subst hx
        cases A with
        | nil => simp at hy
        | cons b A =>
          simp at hy; subst hy
          have := h2.2
          simp [adj] at this; exact this.2.1
      | succ i => simp at hx hy; exact k2 i x y hx hy
theorem blkOk_len {A : List TBlock} (h : blksOk A = true) : A.length ≤ 32 ∧ adj blkOk blkBef none A = true := by
  unfold blksOk at h
  rw [Bool.and_eq_true] at h
  have := of_decide_eq_true h.2
  exact ⟨by omega, h.1⟩
theorem bef_irr (a : TBlock) : blkBef a a = false := by unfold blkBef; simp [bytes_irrefl]
theorem bef_trans {a b c : TBlock} (h : blkBef a b = true) (h' : blkBef b c = true) : blkBef a c = true := by
  unfold blkBef at *
  simp only [Bool.or_eq_true, Bool.and_eq_true, decide_eq_true_eq] at *
  rcases h with h | ⟨h1, h2⟩
  · rcases h' with h' | ⟨h3, h4⟩
    · exact .inl (bytes_trans h h')
    · rw [← h3]; exact .inl h
  · rcases h' with h' | ⟨h3, h4⟩
    · rw [h1]; exact .inl h'
    · exact .inr ⟨h1.trans h3, bytes_trans h2 h4⟩
theorem bef_cmp (a b : TBlock) : blkBef a b = true ↔ blkCmp a b < 0 := by
  have := blkCmp_bef a b
  cases h : blkBef a b
  · rw [h] at this
    have := of_decide_eq_true this
    constructor
    · intro h; cases h
    · intro h; omega
  · rw [h] at this
    have := of_decide_eq_false this
    constructor
    · intro _; omega
    · intro _; rfl
/-- The same kind and name. -/
def sameKey (a b : TBlock) : Prop := a.1 = b.1 ∧ a.2.1 = b.2.1
theorem cmp_key (a b : TBlock) : blkCmp a b = 0 ↔ sameKey a b := by
  unfold blkCmp sameKey
  by_cases h : a.1 = b.1
  · rw [if_pos ((cmpS_zero _ _).2 h), cmpS_zero]; simp [h]
  · rw [if_neg (fun e => h ((cmpS_zero _ _).1 e)), cmpS_zero]; simp [h]
theorem bef_key {a b c : TBlock} (h : sameKey b c) : blkBef a b = blkBef a c := by
  unfold blkBef; rw [h.1, h.2]
theorem key_bef {a b c : TBlock} (h : sameKey b c) : blkBef b a = blkBef c a := by
  unfold blkBef; rw [h.1, h.2]
structure Srt (A : List TBlock) : Prop where
  ok : ∀ x ∈ A, blkOk x = true
  srt : ∀ (i j : Nat) x y, i < j → A[i]? = some x → A[j]? = some y → blkBef x y = true
theorem srt_of {A : List TBlock} (h : ∀ (i : Nat) x y, A[i]? = some x → A[i + 1]? = some y → blkBef x y = true) : ∀ (d i : Nat) x y, A[i]? = some x → A[i + d + 1]? = some y → blkBef x y = true
  | 0, i, x, y, hx, hy => h i x y hx hy
  | d + 1, i, x, y, hx, hy => by
    obtain ⟨z, hz⟩ := get_some (L := A) (n := i + d + 1) (by have := get_lt hy; omega)
    exact bef_trans (srt_of h d i x z hx hz) (h _ z y hz hy)
theorem srt_ok {A : List TBlock} (h : blksOk A = true) : Srt A := by
  obtain ⟨h1, h2⟩ := adj_all (blkOk_len h).2
  refine ⟨h1, fun i j x y hij hx hy => ?_⟩
  exact srt_of h2 (j - i - 1) i x y hx (by rw [show i + (j - i - 1) + 1 = j by omega]; exact hy)
theorem srt_one {A : List TBlock} (h : Srt A) {i j : Nat} {x y : TBlock} (hx : A[i]? = some x) (hy : A[j]? = some y) (hk : sameKey x y) : i = j := by
  rcases Nat.lt_trichotomy i j with h1 | h1 | h1
  · have := h.srt i j x y h1 hx hy
    rw [← bef_key hk, bef_irr] at this; cases this
  · exact h1
  · have := h.srt j i y x h1 hy hx
    rw [bef_key hk, bef_irr] at this; cases this
/-- Where a block stands, or would. -/
def cutB (A : List TBlock) (t : TBlock) : Nat := cut (fun x => blkCmp x t) A
def hasB (A : List TBlock) (t : TBlock) : Bool := match A[cutB A t]? with
  | some x => decide (blkCmp x t = 0)
  | none => false
theorem search_eq {A : List TBlock} (h : Srt A) (hA : A.length ≤ 4611686018427387903) (t : TBlock) : F_slices_BinarySearchFunc_SBlock_Block A t = some ((cutB A t : Int), hasB A t) := by
  unfold F_slices_BinarySearchFunc_SBlock_Block
  refine loop_search (c := fun x => blkCmp x t) (fun n => ((n : Int), match A[n]? with
    | some x => decide (blkCmp x t = 0)
    | none => false)) hA ?_ ?_ ?_
  · intro i j x y hij hx hy hc
    exact (bef_cmp x t).1 (bef_trans (h.srt i j x y hij hx hy) ((bef_cmp y t).2 hc))
  · intro i j k x hij hj hx
    have hlt : decide ((i : Int) < (j : Int)) = true := decide_eq_true (by omega)
    have e : w64 ((((i + j) / 2 : Nat) : Int) + 1) = (((i + j) / 2 + 1 : Nat) : Int) := w64_succ (by omega)
    simp only [F_slices_BinarySearchFunc_SBlock_Block_l0, hlt, bif_t, need_true (show (0 : Int) ≤ 1 by omega), half_eq i j (by omega), ix_get hx, Option.bind_some, compareBlocks_eq, e]
  · intro i k hi
    simp only [F_slices_BinarySearchFunc_SBlock_Block_l0, Int.lt_irrefl, decide_false, bif_f]
    rcases Nat.lt_or_ge i A.length with h1 | h1
    · obtain ⟨x, hx⟩ := get_some (L := A) (n := i) h1
      simp only [int_lt h1, bif_t, ix_get hx, Option.bind_some, compareBlocks_eq, hx]
    · have : A[i]? = none := List.getElem?_eq_none h1
      have hn : decide ((i : Int) < (A.length : Int)) = false := decide_eq_false (by omega)
      simp only [hn, bif_f, this]
theorem cutB_le (A : List TBlock) (t : TBlock) : cutB A t ≤ A.length := cut_le _ _
theorem has_some {A : List TBlock} {t : TBlock} (h : hasB A t = true) : ∃ x, A[cutB A t]? = some x ∧ sameKey x t := by
  unfold hasB at h
  split at h
  · rename_i x hx
    exact ⟨x, hx, (cmp_key x t).1 (of_decide_eq_true h)⟩
  · cases h
theorem has_at {A : List TBlock} (hs : Srt A) {t : TBlock} {i : Nat} {x : TBlock} (hx : A[i]? = some x) (hk : sameKey x t) : i = cutB A t ∧ hasB A t = true := by
  have h0 := (cmp_key x t).2 hk
  have e : i = cutB A t := by
    rcases Nat.lt_trichotomy i (cutB A t) with h1 | h1 | h1
    · have := cut_lt (c := fun x => blkCmp x t) hx h1
      omega
    · exact h1
    · exfalso
      obtain ⟨y, hy⟩ := get_some (L := A) (n := cutB A t) (by have := get_lt hx; omega)
      have := cut_at (c := fun x => blkCmp x t) hy
      have h2 := hs.srt _ _ y x h1 hy hx
      rw [bef_key hk] at h2
      exact this ((bef_cmp y t).1 h2)
  refine ⟨e, ?_⟩
  unfold hasB
  rw [← e, hx]
  exact decide_eq_true h0
end Go.Ab
/- A block put in its place (own text). -/
set_option linter.unusedVariables false
set_option linter.unusedSimpArgs false
namespace Go.Ab
open Go.RowKit
theorem CloneB_eq {A : List TBlock} (h : room A.length 48) : F_slices_Clone_SBlock_Block A = some A := by
  unfold F_slices_Clone_SBlock_Block
  have e : F_slices_Clone_SBlock_Block_j0 A = some A := by unfold F_slices_Clone_SBlock_Block_j0; rw [need_true h]
  rw [e, bif_dec]
  split
  · rename_i h0
    have : A = [] := List.eq_nil_of_length_eq_zero (by omega)
    subst this
    exact both_eq rfl
  · rfl
theorem room48 {n : Nat} (h : n ≤ 100000) : room n 48 := ⟨by omega, by omega⟩
def afterB (A : List TBlock) (t : TBlock) : Nat := if hasB A t = true then cutB A t + 1 else cutB A t
def insB (A : List TBlock) (t : TBlock) : List TBlock := A.take (cutB A t) ++ t :: A.drop (afterB A t)
theorem after_le (A : List TBlock) (t : TBlock) : cutB A t ≤ afterB A t ∧ afterB A t ≤ cutB A t + 1 ∧ afterB A t ≤ A.length := by
  have hc := cutB_le A t
  unfold afterB
  split
  · rename_i h
    obtain ⟨x, hx, _⟩ := has_some h
    have := get_lt hx
    omega
  · omega
theorem insB_len (A : List TBlock) (t : TBlock) : (insB A t).length ≤ A.length + 1 := by
  have hc := cutB_le A t
  have := after_le A t
  unfold insB
  rw [List.length_append, List.length_cons, List.length_take, List.length_drop]
  omega
theorem withBlock_eq {A : List TBlock} (hs : Srt A) (hl : A.length ≤ 1000) (t : TBlock) : F_impl_withBlock A t = some (insB A t) := by
  have hc := cutB_le A t
  unfold F_impl_withBlock
  rw [search_eq hs (by omega), CloneB_eq (room48 (by omega))]
  simp only [Option.bind_some]
  unfold insB afterB
  cases hh : hasB A t
  · have hr : room (A.length + 1) 48 := room48 (by omega)
    simp only [bif_f, F_ins, List.length_singleton]
    rw [need_true ⟨by omega, by omega, hr⟩]
    simp
  · obtain ⟨x, hx, _⟩ := has_some hh
    have hlt := get_lt hx
    simp only [bif_t, ix_get hx, Option.bind_some, Int.toNat_natCast, if_true]
    rw [List.set_eq_take_append_cons_drop, if_pos hlt]
theorem bef_tot {x y : TBlock} (h1 : blkBef x y = false) (h2 : ¬ sameKey x y) : blkBef y x = true := by
  have key : ∀ a b : List UInt8, Op.bytesLess a b = false → a ≠ b → Op.bytesLess b a = true := by
    intro a b h hn
    rcases bytes_tri a b with h1 | h1 | h1
    · rw [h] at h1; cases h1
    · exact absurd h1 hn
    · exact h1
  unfold blkBef at *
  rw [Bool.or_eq_false_iff] at h1
  by_cases e : x.1 = y.1
  · rw [decide_eq_true e, Bool.true_and] at h1
    have := key _ _ h1.2 (fun e2 => h2 ⟨e, e2⟩)
    simp [e, this]
  · have := key _ _ h1.1 e
    simp [this]
theorem bef_asym {x y : TBlock} (h : blkBef x y = true) : blkBef y x = false := by
  cases h2 : blkBef y x
  · rfl
  · have := bef_trans h h2
    rw [bef_irr] at this; cases this
/-- What stands before, at and behind. -/
theorem cut_bef {A : List TBlock} {t : TBlock} {k : Nat} {x : TBlock} (hx : A[k]? = some x) (hk : k < cutB A t) : blkBef x t = true :=
  (bef_cmp x t).2 (cut_lt (c := fun x => blkCmp x t) hx hk)
theorem cut_aft {A : List TBlock} (hs : Srt A) {t : TBlock} {k : Nat} {x : TBlock} (hx : A[k]? = some x) (hk : afterB A t ≤ k) : blkBef t x = true := by
  have hlt := get_lt hx
  unfold afterB at hk
  cases hh : hasB A t
  · rw [hh] at hk
    simp only [Bool.false_eq_true, if_false] at hk
    obtain ⟨y, hy⟩ := get_some (L := A) (n := cutB A t) (by omega)
    have h1 : blkBef y t = false := by
      cases h : blkBef y t
      · rfl
      · exact absurd ((bef_cmp y t).1 h) (cut_at (c := fun x => blkCmp x t) hy)
    have h2 : ¬ sameKey y t := fun hk2 => by
      have := (has_at hs hy hk2).2
      rw [hh] at this; cases this
    have h3 := bef_tot h1 h2
    by_cases e : k = cutB A t
    · subst e; rw [hx] at hy; cases hy; exact h3
    · exact bef_trans h3 (hs.srt _ _ y x (by omega) hy hx)
  · rw [hh] at hk
    simp only [if_true] at hk
    obtain ⟨y, hy, hk2⟩ := has_some hh
    rw [← key_bef hk2]
    exact hs.srt _ _ y x (by omega) hy hx
theorem srt_pw {A : List TBlock} : (∀ (i j : Nat) x y, i < j → A[i]? = some x → A[j]? = some y → blkBef x y = true) ↔ List.Pairwise (fun x y => blkBef x y = true) A := by
  rw [List.pairwise_iff_getElem]
  constructor
  · intro h i j hi hj hij
    exact h i j _ _ hij (List.getElem?_eq_getElem hi) (List.getElem?_eq_getElem hj)
  · intro h i j x y hij hx hy
    have h1 := get_lt hx
    have h2 := get_lt hy
    have := h i j h1 h2 hij
    rw [List.getElem?_eq_getElem h1] at hx
    rw [List.getElem?_eq_getElem h2] at hy
    cases hx; cases hy; exact this
theorem insB_srt {A : List TBlock} (hs : Srt A) {t : TBlock} (ht : blkOk t = true) : Srt (insB A t) := by
  refine ⟨fun x hx => ?_, srt_pw.2 ?_⟩
  · rcases List.mem_append.1 hx with h | h
    · exact hs.ok x (List.mem_of_mem_take h)
    · rcases List.mem_cons.1 h with h | h
      · rw [h]; exact ht
      · exact hs.ok x (List.mem_of_mem_drop h)
  · have hp := srt_pw.1 hs.srt
    unfold insB
    have h1 : ∀ x ∈ A.take (cutB A t), blkBef x t = true := by
      intro x hx
      obtain ⟨k, hk⟩ := List.mem_iff_getElem?.1 hx
      rw [List.getElem?_take] at hk
      split at hk
      · exact cut_bef hk (by assumption)
      · cases hk
    have h2 : ∀ x ∈ A.drop (afterB A t), blkBef t x = true := by
      intro x hx
      obtain ⟨k, hk⟩ := List.mem_iff_getElem?.1 hx
      rw [List.getElem?_drop] at hk
      exact cut_aft hs hk (by omega)
    rw [List.pairwise_append]
    refine ⟨hp.sublist (List.take_sublist _ _), List.pairwise_cons.2 ⟨h2, hp.sublist (List.drop_sublist _ _)⟩, ?_⟩
    intro x hx y hy
    rcases List.mem_cons.1 hy with h | h
    · rw [h]; exact h1 x hx
    · exact bef_trans (h1 x hx) (h2 y h)
theorem key_ne {x t : TBlock} : (∃ r : Bool, r = true ∧ sameKey x t) ∨ ¬ sameKey x t := by
  by_cases h : sameKey x t
  · exact .inl ⟨true, rfl, h⟩
  · exact .inr h
theorem l29Put_eq {A : List TBlock} (hs : Srt A) (hl : A.length ≤ 1000) (t : TBlock) : F_spec_l29Put A t = some (insB A t) := by
  have hc := cutB_le A t
  have hd := after_le A t
  unfold F_spec_l29Put
  obtain ⟨r, e, hr⟩ := loop_ex (body := F_spec_l29Put_l0 A t) (s0 := (false, 0, [])) (L := A) (Q := fun r => r = insB A t)
    (fun i s => s.2.1 = (i : Int) ∧ (i ≤ cutB A t → s.1 = false ∧ s.2.2 = A.take i) ∧ (cutB A t < i → s.1 = true ∧ s.2.2 = A.take (cutB A t) ++ t :: (A.take i).drop (afterB A t))) (by omega) ⟨rfl, fun _ => ⟨rfl, rfl⟩, fun h => by omega⟩
    (by
      rintro i ⟨b, _, O⟩ K a ha hi ⟨rfl, h1, h2⟩ hK
      dsimp only at h1 h2
      have hlt := get_lt ha
      have ha2 := ix_get ha
      have next1 : ∀ (b : Bool) (O : List TBlock), O.length ≤ 2000 → sameKey a t → F_spec_l29Put_j1 A t (i : Int) K b O = K (b, ((i + 1 : Nat) : Int), O) := by
        intro b O hO h
        simp only [F_spec_l29Put_j1, ha2, Option.bind_some, w64_succ hi, bif_dec]
        rw [if_neg (fun e => e h.1), if_neg (fun e => e h.2)]
      have next2 : ∀ (b : Bool) (O : List TBlock), O.length ≤ 2000 → ¬ sameKey a t → F_spec_l29Put_j1 A t (i : Int) K b O = K (b, ((i + 1 : Nat) : Int), O ++ [a]) := by
        intro b O hO h
        have hr : room (O.length + [a].length) 48 := room48 (by simp only [List.length_singleton]; omega)
        simp only [F_spec_l29Put_j1, ha2, Option.bind_some, need_true hr, w64_succ hi, bif_dec]
        by_cases e1 : a.1 = t.1
        · rw [if_neg (fun e => e e1), if_pos (fun e2 => h ⟨e1, e2⟩)]
        · rw [if_pos e1]
      simp only [F_spec_l29Put_l0, int_lt hlt, bif_t, ha2, Option.bind_some, l29Before_eq]
      rcases Nat.lt_trichotomy i (cutB A t) with hic | hic | hic
      · obtain ⟨rfl, rfl⟩ := h1 (by omega)
        have hb := cut_bef ha hic
        have hnk : ¬ sameKey a t := fun h => by rw [key_bef h, bef_irr] at hb; cases hb
        simp only [Bool.not_false, bif_t, hb, Bool.not_true, bif_f]
        rw [next2 _ _ (by rw [List.length_take]; omega) hnk]
        exact hK _ ⟨rfl, fun _ => ⟨rfl, (take_succ ha).symm⟩, fun h => by omega⟩
      · obtain ⟨rfl, rfl⟩ := h1 (by omega)
        have hb : blkBef a t = false := by
          subst hic
          cases h : blkBef a t
          · rfl
          · exact absurd ((bef_cmp a t).1 h) (cut_at (c := fun x => blkCmp x t) ha)
        have hr : room ((A.take i).length + [t].length) 48 := room48 (by simp only [List.length_take, List.length_singleton]; omega)
        simp only [Bool.not_false, bif_t, hb]
        rw [need_true hr]
        have hO : (A.take i ++ [t]).length ≤ 2000 := by simp only [List.length_append, List.length_take, List.length_singleton]; omega
        by_cases hk : sameKey a t
        · have hh : hasB A t = true := (has_at hs ha hk).2
          have hd2 : afterB A t = cutB A t + 1 := by unfold afterB; rw [if_pos hh]
          rw [next1 _ _ hO hk]
          refine hK _ ⟨rfl, fun h => by omega, fun _ => ⟨rfl, ?_⟩⟩
          dsimp only
          rw [hd2, ← hic, List.drop_eq_nil_of_le (by rw [List.length_take]; omega)]
        · have hh : hasB A t = false := by
            cases h : hasB A t
            · rfl
            · obtain ⟨x, hx, hk2⟩ := has_some h
              rw [← hic, ha] at hx; cases hx; exact absurd hk2 hk
          have hd2 : afterB A t = cutB A t := by unfold afterB; rw [hh]; rfl
          rw [next2 _ _ hO hk]
          refine hK _ ⟨rfl, fun h => by omega, fun _ => ⟨rfl, ?_⟩⟩
          dsimp only
          rw [hd2, ← hic, take_succ ha, List.drop_append_of_le_length (by rw [List.length_take]; omega), List.drop_eq_nil_of_le (by rw [List.length_take]; omega)]
          simp
      · obtain ⟨rfl, rfl⟩ := h2 hic
        have hb := cut_aft hs (t := t) ha (by omega)
        have hnk : ¬ sameKey a t := fun h => by rw [bef_key h, bef_irr] at hb; cases hb
        simp only [Bool.not_true, bif_f]
        rw [next2 _ _ (by simp only [List.length_append, List.length_cons, List.length_take, List.length_drop]; omega) hnk]
        refine hK _ ⟨rfl, fun h => by omega, fun _ => ⟨rfl, ?_⟩⟩
        dsimp only
        rw [take_succ ha, List.drop_append_of_le_length (by rw [List.length_take]; omega)]
        simp)
    (by
      rintro ⟨b, _, O⟩ K ⟨rfl, h1, h2⟩
      dsimp only at h1 h2
      simp only [F_spec_l29Put_l0, int_lt_self, bif_f]
      rcases Nat.lt_or_ge (cutB A t) A.length with hic | hic
      · obtain ⟨rfl, rfl⟩ := h2 hic
        simp only [Bool.not_true, bif_f]
        refine ⟨_, rfl, ?_⟩
        unfold insB
        rw [take_all (Nat.le_refl _)]
      · have hce : cutB A t = A.length := by omega
        obtain ⟨rfl, rfl⟩ := h1 (by omega)
        have hr : room ((A.take A.length).length + [t].length) 48 := room48 (by simp only [List.length_take, List.length_singleton]; omega)
        simp only [Bool.not_false, bif_t]
        rw [need_true hr]
        refine ⟨_, rfl, ?_⟩
        unfold insB
        rw [hce, take_all (Nat.le_refl _), List.drop_eq_nil_of_le (by omega)])
  rw [e, hr]
end Go.Ab
/- SalvageBlocks (own text). -/
set_option linter.unusedVariables false
set_option linter.unusedSimpArgs false
namespace Go.Ab
open Go.RowKit
theorem spl_small {c : UInt8} {s x : List UInt8} (hs : s.length ≤ 1048576) (h : x ∈ spl c s) : x.length ≤ 2000000 := by
  have := (spl_sum c s x h).1
  omega
theorem adj_of {α : Type} {one : α → Bool} {bef : α → α → Bool} : ∀ {A : List α} {p : Option α}, (∀ x ∈ A, one x = true) → (∀ (i : Nat) x y, A[i]? = some x → A[i + 1]? = some y → bef x y = true) → (∀ q a, p = some q → A[0]? = some a → bef q a = true) → adj one bef p A = true
  | [], p, _, _, _ => by cases p <;> rfl
  | x :: t, p, h1, h2, h3 => by
    have ih : adj one bef (some x) t = true := adj_of (fun y hy => h1 y (by simp [hy])) (fun i a b ha hb => h2 (i + 1) a b (by simpa using ha) (by simpa using hb)) (by
      intro q a hq ha
      cases hq
      exact h2 0 x a rfl (by simpa using ha))
    have hx := h1 x (by simp)
    cases p with
    | none => simp [adj, hx, ih]
    | some q => simp [adj, hx, ih, h3 q x rfl rfl]
def allOk (A : List TBlock) : Prop := ∀ x ∈ A, blkOk x = true
theorem blks_of {A : List TBlock} (hs : Srt A) (ho : allOk A) (hl : A.length ≤ 32) : blksOk A = true := by
  unfold blksOk
  rw [adj_of ho (fun i x y hx hy => hs.srt i (i + 1) x y (by omega) hx hy) (by intro q a hq; cases hq), Bool.true_and]
  exact decide_eq_true (by omega)
theorem ok_small {A : List TBlock} (ho : allOk A) (hl : A.length ≤ 32) : OkBlocks A := by
  refine ⟨by show A.length ≤ 9223372036854775807; omega, ?_⟩
  intro x hx
  have h := ho x hx
  unfold blkOk nameOk at h
  simp only [Bool.and_eq_true, decide_eq_true_eq] at h
  refine ⟨?_, ?_, ?_⟩
  · show x.1.length ≤ 9223372036854775807; omega
  · show x.2.1.length ≤ 9223372036854775807; omega
  · show x.2.2.length ≤ 9223372036854775807; omega
theorem ins_ok {A : List TBlock} {t : TBlock} (ho : allOk A) (ht : blkOk t = true) : allOk (insB A t) := by
  intro x hx
  unfold insB at hx
  rcases List.mem_append.1 hx with h | h
  · exact ho x (List.mem_of_mem_take h)
  · rcases List.mem_cons.1 h with rfl | h
    · exact ht
    · exact ho x (List.mem_of_mem_drop h)
/-- One line more. -/
def salv (A : List TBlock) (l : List UInt8) : List TBlock := if (blkOf l).2 ≠ 0 then A else if (insB A (blkOf l).1).length ≤ 32 then insB A (blkOf l).1 else A
theorem blkOf_ok {l : List UInt8} (h : (blkOf l).2 = 0) : blkOk (blkOf l).1 = true := by
  have e9 : ∀ n : Int, n ≠ 0 → (noBlk n).2 = 0 → blkOk (noBlk n).1 = true := fun n hn h => absurd h hn
  unfold blkOf at h ⊢
  split at h
  · exact absurd h (by decide)
  · split at h
    · exact absurd h (by decide)
    · split at h
      · exact absurd h (by decide)
      · rename_i h1 h2 h3
        rw [if_neg h1, if_neg h2, if_neg h3]
        unfold blkEnd at h ⊢
        split at h
        · exact absurd h (by decide)
        · rename_i b hb
          cases hk : blkOk b
          · rw [hk, bif_f] at h; exact absurd h (by decide)
          · simp [hk]
structure Good3 (A : List TBlock) : Prop where
  srt : Srt A
  ok : allOk A
  len : A.length ≤ 32
theorem salv_good {A : List TBlock} {l : List UInt8} (h : Good3 A) : Good3 (salv A l) := by
  unfold salv
  split
  · exact h
  · rename_i h0
    have hb := blkOf_ok (l := l) (by omega)
    split
    · exact ⟨insB_srt h.srt hb, ins_ok h.ok hb, by assumption⟩
    · exact h
theorem put_eq {A : List TBlock} (h : Good3 A) {l : List UInt8} (hl : l.length ≤ 2000000) (h0 : (blkOf l).2 = 0) : F_impl_PutBlock A (blkOf l).1 = some (if (insB A (blkOf l).1).length ≤ 32 then (insB A (blkOf l).1, 0) else ([], 5)) := by
  have hb := blkOf_ok h0
  have hn := hb
  unfold blkOk nameOk at hn
  simp only [Bool.and_eq_true, decide_eq_true_eq] at hn
  unfold F_impl_PutBlock
  rw [ValidBlocks_eq (ok_small h.ok h.len), blks_of h.srt h.ok h.len]
  simp only [Option.bind_some, Bool.not_true, bif_f]
  rw [ValidBlock_eq _ (by omega) (by omega), hb]
  simp only [Option.bind_some, Bool.not_true, bif_f]
  rw [withBlock_eq h.srt (by have := h.len; omega)]
  simp only [Option.bind_some, bif_dec]
  split
  · rw [if_neg (by omega)]
  · rw [if_pos (by omega)]
def salvage (L : List (List UInt8)) : List TBlock := ((L.take (L.length - 1)).drop 1).foldl salv []
theorem good_nil : Good3 [] := ⟨⟨fun x h => (by cases h), fun i j x y h hx => (by simp at hx)⟩, fun x h => (by cases h), by simp⟩
theorem good_fold : ∀ {K : List (List UInt8)} {A : List TBlock}, Good3 A → Good3 (K.foldl salv A)
  | [], _, h => h
  | l :: K, A, h => good_fold (K := K) (salv_good h)
theorem step_fold {K : List (List UInt8)} {n : Nat} {x : List UInt8} (h : K[n]? = some x) (hn : 1 ≤ n) {A : List TBlock} : ((K.take (n + 1)).drop 1).foldl salv A = salv (((K.take n).drop 1).foldl salv A) x := by
  rw [take_succ h, List.drop_append_of_le_length (by have := get_lt h; rw [List.length_take]; omega), List.foldl_append]
  rfl
theorem salv_impl (s : List UInt8) (hs : s.length ≤ 1048576) : F_impl_SalvageBlocks s = some (salvage (spl 10 s)) := by
  unfold F_impl_SalvageBlocks
  rw [F_split_eq 10 (by omega), Option.bind_some]
  have hl := spl_len 10 s
  have hm : ∀ x ∈ spl 10 s, x.length ≤ 2000000 := fun x hx => spl_small hs hx
  have hne := spl_ne 10 s
  generalize spl 10 s = L at *
  have hpos : 0 < L.length := List.length_pos_iff.2 hne
  have e1 : w64 ((L.length : Int) - 1) = ((L.length - 1 : Nat) : Int) := by rw [w64_id (by omega)]; omega
  have e2 : sub L 0 ((L.length - 1 : Nat) : Int) = L.take (L.length - 1) := sub_nat L 0 _
  rw [e1, need_true ⟨by omega, by omega, by omega⟩]
  generalize hK : L.take (L.length - 1) = K at *
  have hKl : K.length = L.length - 1 := by rw [← hK, List.length_take]; omega
  have hmK : ∀ x ∈ K, x.length ≤ 2000000 := fun x hx => hm x (by rw [← hK] at hx; exact List.mem_of_mem_take hx)
  unfold salvage
  rw [hK]
  suffices H : ∃ r, loop (F_impl_SalvageBlocks_l0 L) (0, []) = some r ∧ r = (K.drop 1).foldl salv [] by
    obtain ⟨r, e, hr⟩ := H
    rw [e, hr]
  refine loop_ex (L := K) (fun i st => st.1 = (i : Int) ∧ st.2 = ((K.take i).drop 1).foldl salv []) (by omega) ⟨rfl, by simp⟩ ?_ ?_
  · rintro i ⟨j, acc⟩ k x hx hi ⟨rfl, hacc⟩ hk
    have hlt := get_lt hx
    dsimp only at hacc
    subst hacc
    have hg : Good3 (((K.take i).drop 1).foldl salv []) := good_fold good_nil
    have hxl := hmK x (get_mem hx)
    simp only [F_impl_SalvageBlocks_l0]
    rw [e1, decide_eq_true (by omega), bif_t, e2, ix_get hx, Option.bind_some, blockOf_eq x hxl, Option.bind_some, w64_succ hi]
    by_cases h0 : i = 0
    · subst h0
      rw [decide_eq_true (by rfl), bif_t]
      refine hk _ ⟨rfl, ?_⟩
      dsimp only
      rw [take_succ hx]; simp
    · rw [decide_eq_false (by omega), bif_f]
      have hst := step_fold (A := []) hx (by omega)
      by_cases hc : (blkOf x).2 = 0
      · rw [decide_eq_false (by omega), bif_f, put_eq hg hxl hc, Option.bind_some]
        have hsv : salv (((K.take i).drop 1).foldl salv []) x = if (insB (((K.take i).drop 1).foldl salv []) (blkOf x).1).length ≤ 32 then insB (((K.take i).drop 1).foldl salv []) (blkOf x).1 else ((K.take i).drop 1).foldl salv [] := by
          unfold salv; rw [if_neg (by omega)]
        split
        · rename_i h32
          rw [if_pos h32] at hsv
          rw [decide_eq_true rfl, bif_t]
          exact hk _ ⟨rfl, by rw [hst, hsv]⟩
        · rename_i h32
          rw [if_neg h32] at hsv
          rw [decide_eq_false (by decide), bif_f]
          exact hk _ ⟨rfl, by rw [hst, hsv]⟩
      · rw [decide_eq_true hc, bif_t]
        refine hk _ ⟨rfl, ?_⟩
        dsimp only
        rw [hst]; unfold salv; rw [if_pos hc]
  · rintro ⟨j, acc⟩ k ⟨rfl, hacc⟩
    dsimp only at hacc
    rw [take_all (Nat.le_refl _)] at hacc
    simp only [F_impl_SalvageBlocks_l0]
    rw [e1, decide_eq_false (by omega), bif_f]
    exact ⟨_, rfl, hacc⟩
theorem salv_spec (s : List UInt8) (hs : s.length ≤ 1048576) : F_spec_SalvageBlocks s = some (salvage (spl 10 s)) := by
  unfold F_spec_SalvageBlocks F_spec_l29Lines
  have : F_spec_l01Split s 10 = some (spl 10 s) := Split_eq s 10 (by omega)
  rw [this, Option.bind_some]
  have hl := spl_len 10 s
  have hm : ∀ x ∈ spl 10 s, x.length ≤ 2000000 := fun x hx => spl_small hs hx
  have hne := spl_ne 10 s
  generalize spl 10 s = L at *
  have hpos : 0 < L.length := List.length_pos_iff.2 hne
  have e1 : w64 ((L.length : Int) - 1) = ((L.length - 1 : Nat) : Int) := by rw [w64_id (by omega)]; omega
  obtain ⟨z, hz⟩ := get_some (L := L) (n := L.length - 1) (by omega)
  have e2 : sub L 0 ((L.length - 1 : Nat) : Int) = L.take (L.length - 1) := sub_nat L 0 _
  rw [e1, need_true ⟨by omega, by omega, by omega⟩, ix_get hz, Option.bind_some, Option.bind_some, e2]
  generalize hK : L.take (L.length - 1) = K at *
  have hKl : K.length = L.length - 1 := by rw [← hK, List.length_take]; omega
  have hmK : ∀ x ∈ K, x.length ≤ 2000000 := fun x hx => hm x (by rw [← hK] at hx; exact List.mem_of_mem_take hx)
  unfold salvage
  rw [hK]
  suffices H : ∃ r, loop (F_spec_SalvageBlocks_l0 (K, decide (z = []))) (1, []) = some r ∧ r = (K.drop 1).foldl salv [] by
    obtain ⟨r, e, hr⟩ := H
    rw [e, hr]
  refine loop_mu (fun st => ∃ i : Nat, st.1 = (i : Int) ∧ 1 ≤ i ∧ st.2 = ((K.take i).drop 1).foldl salv []) (fun st => (K.length - st.1).toNat) ⟨1, rfl, by omega, ?_⟩ (by show ((K.length : Int) - 1).toNat < lim; unfold lim; omega) ?_
  · cases K <;> simp
  · rintro ⟨j, acc⟩ k ⟨i, h1, h2, h4⟩ hk
    dsimp only at h1 h4 hk
    subst h1 h4
    simp only [F_spec_SalvageBlocks_l0]
    by_cases hi : i < K.length
    · obtain ⟨x, hx⟩ := get_some hi
      have hg : Good3 (((K.take i).drop 1).foldl salv []) := good_fold good_nil
      have hxl := hmK x (get_mem hx)
      have hgo : ∀ acc', acc' = ((K.take (i + 1)).drop 1).foldl salv [] → ∃ r, k (((i + 1 : Nat) : Int), acc') = some r ∧ r = (K.drop 1).foldl salv [] := fun acc' ha => hk _ ⟨i + 1, rfl, by omega, ha⟩ (by dsimp only; omega)
      have hst := step_fold (A := []) hx h2
      rw [decide_eq_true (by omega), bif_t, ix_get hx, Option.bind_some, l29Parse_eq x hxl, Option.bind_some, w64_succ (by omega)]
      by_cases hc : (blkOf x).2 = 0
      · rw [decide_eq_false (by omega), bif_f, l29Put_eq hg.srt (by have := hg.len; omega), Option.bind_some]
        have hsv : salv (((K.take i).drop 1).foldl salv []) x = if (insB (((K.take i).drop 1).foldl salv []) (blkOf x).1).length ≤ 32 then insB (((K.take i).drop 1).foldl salv []) (blkOf x).1 else ((K.take i).drop 1).foldl salv [] := by
          unfold salv; rw [if_neg (by omega)]
        by_cases h32 : (insB (((K.take i).drop 1).foldl salv []) (blkOf x).1).length ≤ 32
        · rw [if_pos h32] at hsv
          rw [decide_eq_true (by omega), bif_t]
          exact hgo _ (by rw [hst, hsv])
        · rw [if_neg h32] at hsv
          rw [decide_eq_false (by omega), bif_f]
          exact hgo _ (by rw [hst, hsv])
      · rw [decide_eq_true hc, bif_t]
        exact hgo _ (by rw [hst]; unfold salv; rw [if_pos hc])
    · rw [decide_eq_false (by omega), bif_f]
      exact ⟨_, rfl, by rw [take_all (by omega)]⟩
theorem core_SalvageBlocks (a0 : List UInt8) (o0 : OkS a0) (s0 : SmS a0) : ∃ w, F_spec_SalvageBlocks a0 = some w ∧ F_impl_SalvageBlocks a0 = some w ∧ (SmL CtBlock) w := by
  have hs : a0.length ≤ 1048576 := by have : (a0.length : Int) ≤ 1048576 := s0; omega
  have hg : Good3 (salvage (spl 10 a0)) := good_fold good_nil
  have := hg.len
  exact ⟨_, salv_spec a0 hs, salv_impl a0 hs, by omega, fun _ _ => ⟨trivial, trivial, trivial⟩⟩
end Go.Ab
