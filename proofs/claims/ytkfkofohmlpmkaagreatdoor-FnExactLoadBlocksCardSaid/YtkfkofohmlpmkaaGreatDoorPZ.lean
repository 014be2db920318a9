/- Own texts, merged: PNames PBlock PSpl PSpT PDig PDec PCrc PParse PNum PNumS PBlC PLd PLoad. -/
import Derived.Test.YtkfkofohmlpmkaaGreatDoorPS
import Derived.Test.YtkfkofohmlpmkaaGreatDoorPL
import Derived.Test.YtkfkofohmlpmkaaGreatDoorGT
import Derived.Lib.SplitLaws
import Derived.Lib.ItoaNum
/- Names (own text). -/
set_option linter.unusedVariables false
set_option linter.unusedSimpArgs false
namespace Go.Ab
open Go.RowKit

/-- A byte of a name. -/
def nb (b : UInt8) : Bool := decide ((97 ≤ b.toNat ∧ b.toNat ≤ 122) ∨ (48 ≤ b.toNat ∧ b.toNat ≤ 57))
def lowHead : List UInt8 → Bool
  | [] => false
  | b :: _ => decide (97 ≤ b.toNat ∧ b.toNat ≤ 122)
/-- A name. -/
def nameOk (s : List UInt8) : Bool := decide (s.length ≤ 10) && (lowHead s && s.all nb)
theorem l01Small_eq (c : Int) : F_spec_l01Small c = some (decide (97 ≤ c ∧ c ≤ 122)) := by
  unfold F_spec_l01Small
  by_cases h : 97 ≤ c <;> simp [h]
theorem l01Digit_eq (c : Int) : F_spec_l01Digit c = some (decide (48 ≤ c ∧ c ≤ 57)) := by
  unfold F_spec_l01Digit
  by_cases h : 48 ≤ c <;> simp [h]
theorem l01Name_eq (s : List UInt8) (hs : s.length ≤ 9223372036854775807) : F_spec_l01Name s = some (nameOk s) := by
  unfold F_spec_l01Name
  cases s with
  | nil => rfl
  | cons b t =>
    have e : loop (F_spec_l01Name_l0 (b :: t)) 0 = some ((b :: t).all nb) := by
      refine loop_all nb hs ?_ ?_
      · intro i k a ha hi
        simp only [F_spec_l01Name_l0, int_lt (get_lt ha), ix_get ha, Option.bind_some, bif_t, l01Small_eq, l01Digit_eq, w64_succ hi, ← decide_not, bif_dec, nb]
        repeat' split
        all_goals first | rfl | (exfalso; omega)
      · intro k; simp [F_spec_l01Name_l0]
    rw [e]
    simp only [reduceCtorEq, decide_false, bif_f, ix_zero, Option.bind_some, l01Small_eq, ← decide_not, bif_dec, nameOk, lowHead]
    split
    · rename_i h; rw [decide_eq_false (by omega)]; rfl
    · rename_i h
      rw [decide_eq_true (by omega)]
      split
      · rename_i h2; rw [decide_eq_false (by omega)]; rfl
      · rename_i h2; rw [decide_eq_true (by omega)]; rfl
theorem onlyNameBytes_eq (s : List UInt8) (hs : s.length ≤ 9223372036854775807) : F_impl_onlyNameBytes s = some (s.all nb) := by
  unfold F_impl_onlyNameBytes
  refine loop_all nb hs ?_ ?_
  · intro i k a ha hi
    simp only [F_impl_onlyNameBytes_l0, int_lt (get_lt ha), ix_get ha, Option.bind_some, bif_t, w64_succ hi, bif_dec, nb]
    repeat' split
    all_goals first | rfl | (exfalso; omega)
  · intro k; simp [F_impl_onlyNameBytes_l0]
theorem IsName_eq (s : List UInt8) (hs : s.length ≤ 9223372036854775807) : F_impl_IsName s = some (nameOk s) := by
  unfold F_impl_IsName
  rw [onlyNameBytes_eq s hs]
  cases s with
  | nil => rfl
  | cons b t =>
    simp only [ix_zero, Option.bind_some, bif_dec, nameOk, lowHead]
    split
    · rename_i h; simp at h; omega
    · split
      · rename_i h; rw [decide_eq_false (by omega)]; rfl
      · rename_i h
        rw [decide_eq_true (by omega)]
        split
        · rename_i h2; rw [decide_eq_false (by omega)]; rfl
        · split
          · rename_i h2; rw [decide_eq_false (by omega)]; rfl
          · rw [decide_eq_true (by omega)]; rfl
end Go.Ab
/- ValidBlock: the program's and the reference's (own text). -/
set_option linter.unusedVariables false
set_option linter.unusedSimpArgs false
namespace Go.Ab
open Go.RowKit
section
variable {α : Type}
/-- Each is right, and each is right behind the one before. -/
def adj (one : α → Bool) (bef : α → α → Bool) : Option α → List α → Bool
  | _, [] => true
  | none, x :: t => one x && adj one bef (some x) t
  | some q, x :: t => one x && (bef q x && adj one bef (some x) t)
def prevA (A : List α) : Nat → Option α
  | 0 => none
  | n + 1 => A[n]?
theorem loop_adj {A : List α} {one : α → Bool} {bef : α → α → Bool} {fin : Bool} {body : (Int → Option Bool) → Int → Option Bool} (hA : A.length ≤ 9223372036854775807)
    (first : ∀ k a, A[0]? = some a → body k 0 = bif one a then k 1 else some false)
    (more : ∀ (i : Nat) k q a, A[i]? = some q → A[i + 1]? = some a → i + 1 < 9223372036854775807 → body k ((i + 1 : Nat) : Int) = bif one a then (bif bef q a then k ((i + 2 : Nat) : Int) else some false) else some false)
    (done : ∀ k, body k (A.length : Int) = some fin) : loop body 0 = some (adj one bef none A && fin) := by
  have := loop_at (L := A) (body := body) (fun i => adj one bef (prevA A i) (A.drop i) && fin) hA ?_ ?_
  · exact this
  · intro i k a ha hi hk
    rw [drop_cons ha]
    cases i with
    | zero =>
      have h1 := first k a ha
      have hp : prevA A 1 = some a := ha
      rw [hp] at hk
      show body k 0 = _
      rw [h1]
      simp only [prevA, adj]
      cases one a
      · rfl
      · exact hk
    | succ n =>
      obtain ⟨q, hq⟩ := get_some (L := A) (n := n) (by have := get_lt ha; omega)
      have h1 := more n k q a hq ha hi
      have hp : prevA A (n + 1 + 1) = some a := ha
      rw [hp] at hk
      rw [h1]
      simp only [prevA, hq, adj]
      cases one a
      · rfl
      · cases bef q a
        · rfl
        · exact hk
  · intro k
    rw [done, List.drop_length]
    cases prevA A A.length <;> simp [adj]
end
theorem byteIdx_pos (s : List UInt8) (c : UInt8) : 0 ≤ byteIdx s c ↔ c ∈ s := by
  unfold byteIdx
  cases h : s.findIdx? (· == c) with
  | none =>
    rw [List.findIdx?_eq_none_iff] at h
    constructor
    · intro h2; exact absurd h2 (by show ¬ (0 : Int) ≤ -1; omega)
    · intro h2; have := h c h2; simp at this
  | some i =>
    constructor
    · intro _
      obtain ⟨h1, h2, _⟩ := List.findIdx?_eq_some_iff_getElem.1 h
      have h2 : s[i] = c := by simpa using h2
      rw [← h2]; exact List.getElem_mem h1
    · intro _; show (0 : Int) ≤ (i : Int); omega
theorem Contains_byte (s : List UInt8) (c : UInt8) : F_strings_Contains s [c] = some (decide (c ∈ s)) := by
  unfold F_strings_Contains F_strings_Index F_stringslite_Index F_stringslite_Index_j0 F_stringslite_IndexByte
  by_cases h : [c] = s
  · subst h; simp
  · simp [h, ix, byteIdx_pos]
/-- A right block. -/
def blkOk (b : TBlock) : Bool := nameOk b.1 && (nameOk b.2.1 && (decide ((b.2.2.length : Int) ≤ 400) && !decide ((10 : UInt8) ∈ b.2.2)))
theorem l29One_eq (b : TBlock) (h1 : b.1.length ≤ 9223372036854775807) (h2 : b.2.1.length ≤ 9223372036854775807) (h3 : b.2.2.length ≤ 9223372036854775807) : F_spec_l29One b = some (blkOk b) := by
  unfold F_spec_l29One
  have := loop_sfx (body := F_spec_l29One_l0 b) (L := b.2.2) (fun t => !decide ((10 : UInt8) ∈ t) && (nameOk b.1 && (nameOk b.2.1 && decide ((b.2.2.length : Int) ≤ 400)))) h3 ?_ ?_
  · rw [this]
    unfold blkOk
    congr 1
    cases nameOk b.1 <;> cases nameOk b.2.1 <;> cases decide ((b.2.2.length : Int) ≤ 400) <;> simp
  · intro i k a t ha hi hk
    simp only [F_spec_l29One_l0, int_lt (get_lt ha), bif_t, ix_get ha, Option.bind_some, w64_succ hi, bif_dec]
    split
    · rename_i h
      have : a = 10 := by
        apply UInt8.toNat_inj.1
        show a.toNat = 10
        omega
      subst this
      simp
    · rename_i h
      have : ¬ a = 10 := by rintro rfl; exact h rfl
      rw [hk]
      have e : ((10 : UInt8) ∈ a :: t) = ((10 : UInt8) ∈ t) := by
        simp only [List.mem_cons, eq_iff_iff, or_iff_right_iff_imp]
        intro e; exact absurd e.symm this
      simp only [e]
  · intro k
    simp only [F_spec_l29One_l0, int_lt_self, bif_f, l01Name_eq b.1 h1, l01Name_eq b.2.1 h2, Option.bind_some]
    cases nameOk b.1 <;> cases nameOk b.2.1 <;> simp
theorem ValidBlock_eq (b : TBlock) (h1 : b.1.length ≤ 9223372036854775807) (h2 : b.2.1.length ≤ 9223372036854775807) : F_impl_ValidBlock b = some (blkOk b) := by
  unfold F_impl_ValidBlock blkOk
  simp only [IsName_eq b.1 h1, IsName_eq b.2.1 h2, Contains_byte, Option.bind_some]
  cases nameOk b.1 <;> cases nameOk b.2.1 <;> cases decide ((b.2.2.length : Int) ≤ 400) <;> rfl
end Go.Ab
/- Texts divided at a byte (own text). -/
set_option linter.unusedVariables false
set_option linter.unusedSimpArgs false
namespace Go.Ab
open Go.RowKit

/-- What stands ahead of the first piece. -/
def ahead (p : List UInt8) : List (List UInt8) → List (List UInt8)
  | h :: t => (p ++ h) :: t
  | [] => [p]
def spl (c : UInt8) : List UInt8 → List (List UInt8)
  | [] => [[]]
  | x :: s => if x = c then [] :: spl c s else ahead [x] (spl c s)
def splN (c : UInt8) : Nat → List UInt8 → List (List UInt8)
  | 0, s => [s]
  | _ + 1, [] => [[]]
  | k + 1, x :: s => if x = c then [] :: splN c k s else ahead [x] (splN c (k + 1) s)
theorem ahead_ahead (p q : List UInt8) (l : List (List UInt8)) : ahead p (ahead q l) = ahead (p ++ q) l := by
  cases l <;> simp [ahead]
theorem ahead_nil {l : List (List UInt8)} (h : l ≠ []) : ahead [] l = l := by
  cases l with
  | nil => exact absurd rfl h
  | cons => rfl
theorem ahead_ne (p : List UInt8) (l : List (List UInt8)) : ahead p l ≠ [] := by cases l <;> simp [ahead]
theorem spl_ne (c : UInt8) (s : List UInt8) : spl c s ≠ [] := by
  cases s with
  | nil => simp [spl]
  | cons x s =>
    simp only [spl]
    split
    · simp
    · exact ahead_ne _ _
theorem spl_len (c : UInt8) (s : List UInt8) : (spl c s).length ≤ s.length + 1 := by
  induction s with
  | nil => simp [spl]
  | cons x s ih =>
    simp only [spl]
    split
    · simp; exact ih
    · have : (ahead [x] (spl c s)).length = (spl c s).length := by
        cases h : spl c s with
        | nil => exact absurd h (spl_ne c s)
        | cons => rfl
      rw [this, List.length_cons]; omega
theorem spl_nil {c : UInt8} {p : List UInt8} : ahead p (spl c []) = [p] := by simp [spl, ahead]
theorem spl_hit {c : UInt8} {p s : List UInt8} : ahead p (spl c (c :: s)) = p :: spl c s := by simp [spl, ahead]
theorem spl_miss {c x : UInt8} {p s : List UInt8} (h : x ≠ c) : ahead p (spl c (x :: s)) = ahead (p ++ [x]) (spl c s) := by
  simp only [spl, h, if_false]
  exact ahead_ahead _ _ _
/-- The pieces hold no byte of the kind, and are no longer than the whole. -/
theorem ahead_mem {p : List UInt8} {l : List (List UInt8)} {Q : List UInt8 → Prop} (h1 : ∀ h t, l = h :: t → Q (p ++ h)) (h0 : l = [] → Q p) (h2 : ∀ x ∈ l, Q x) : ∀ x ∈ ahead p l, Q x := by
  cases l with
  | nil => intro x hx; rw [List.mem_singleton.1 hx]; exact h0 rfl
  | cons h t =>
    intro x hx
    rcases List.mem_cons.1 hx with rfl | hx
    · exact h1 h t rfl
    · exact h2 x (by simp [hx])
theorem spl_sum (c : UInt8) (s : List UInt8) : ∀ x ∈ spl c s, x.length ≤ s.length ∧ c ∉ x := by
  induction s with
  | nil => simp [spl]
  | cons y s ih =>
    simp only [spl]
    split
    · intro x hx
      rcases List.mem_cons.1 hx with rfl | hx
      · simp
      · obtain ⟨h1, h2⟩ := ih x hx
        exact ⟨by simp only [List.length_cons]; omega, h2⟩
    · rename_i hne
      refine ahead_mem ?_ (fun h => absurd h (spl_ne c s)) ?_
      · intro h t e
        obtain ⟨h1, h2⟩ := ih h (by rw [e]; simp)
        refine ⟨by simp only [List.length_append, List.length_cons, List.length_nil]; omega, ?_⟩
        simp only [List.singleton_append, List.mem_cons, not_or]
        exact ⟨fun e => hne e.symm, h2⟩
      · intro x hx
        obtain ⟨h1, h2⟩ := ih x hx
        exact ⟨by simp only [List.length_cons]; omega, h2⟩

theorem index_one (c x : UInt8) (s : List UInt8) : Go.Lib.index (x :: s) [c] = if x = c then 0 else if Go.Lib.index s [c] = -1 then -1 else Go.Lib.index s [c] + 1 := by
  simp only [Go.Lib.index, List.isPrefixOf, Bool.and_true, beq_iff_eq]
  by_cases h : x = c
  · subst h; simp
  · simp [h, show ¬ c = x from fun e => h e.symm]
theorem splitK_eq (c : UInt8) : ∀ (s : List UInt8) (k : Nat), Go.Lib.splitK [c] 0 k s = splN c k s
  | s, 0 => by simp [Go.Lib.splitK, splN]
  | [], k + 1 => by simp [Go.Lib.splitK, splN, Go.Lib.index]
  | x :: s, k + 1 => by
    have ih := splitK_eq c s (k + 1)
    have ih0 := splitK_eq c s k
    have hge := Go.Lib.index_ge s [c]
    simp only [Go.Lib.splitK, splN, index_one, beq_iff_eq] at ih ⊢
    by_cases h : x = c
    · simp [h, ih0]
    · simp only [h, if_false]
      by_cases h2 : Go.Lib.index s [c] = -1
      · simp only [h2, if_true] at ih ⊢
        rw [← ih]; simp [ahead]
      · simp only [h2, if_false] at ih ⊢
        rw [← ih]
        have e1 : ¬ (Go.Lib.index s [c] + 1 = -1) := by omega
        have e2 : (Go.Lib.index s [c] + 1).toNat = (Go.Lib.index s [c]).toNat + 1 := by omega
        rw [if_neg e1, e2]
        simp [ahead, Nat.add_right_comm]
theorem splN_all (c : UInt8) : ∀ (s : List UInt8) (k : Nat), s.count c ≤ k → splN c k s = spl c s
  | [], 0, _ => rfl
  | [], k + 1, _ => rfl
  | x :: s, 0, h => by
    have hx : x ≠ c := by rintro rfl; simp at h
    have hs : s.count c ≤ 0 := by rw [List.count_cons_of_ne hx] at h; exact h
    have ih := splN_all c s 0 hs
    simp only [splN, spl, hx, if_false] at ih ⊢
    rw [← ih]; simp [ahead]
  | x :: s, k + 1, h => by
    simp only [splN, spl]
    by_cases hx : x = c
    · subst hx
      rw [List.count_cons_self] at h
      simp only [if_true]
      rw [splN_all x s k (by omega)]
    · rw [List.count_cons_of_ne hx] at h
      simp only [hx, if_false]
      rw [splN_all c s (k + 1) h]
theorem F_split_eq {s : List UInt8} (c : UInt8) (h : s.length < 4294967281) : F_split s [c] = some (spl c s) := by
  unfold F_split
  rw [need_true ⟨h, by simp⟩, Go.Lib.splitB_data, bz_data, bz_data, splitK_eq]
  congr 1
  refine splN_all c s _ ?_
  have : Go.Lib.countB (bz s) (bz [c]) = Go.Lib.count s [c] := by unfold Go.Lib.countB; rw [bz_data, bz_data]
  rw [this, Go.Lib.count_one]
  exact Nat.le_refl _
theorem F_splitN_eq {s : List UInt8} (c : UInt8) {n : Nat} (h : s.length < 4294967281) (h1 : 1 ≤ n) (h2 : n ≤ 9223372036854775807) : F_splitN s [c] (n : Int) = some (splN c (min n (s.length + 1) - 1) s) := by
  unfold F_splitN
  rw [need_true ⟨h, by simp, by omega, by omega⟩, Go.Lib.splitB_data, bz_data, bz_data, splitK_eq]
  rfl
/-- At the first byte of a kind. -/
def cutA (c : UInt8) (s : List UInt8) : List UInt8 × List UInt8 × Bool := (s.takeWhile (fun x => !decide (x = c)), (s.dropWhile (fun x => !decide (x = c))).tail, decide (c ∈ s))
theorem cut_eq (c : UInt8) : ∀ s : List UInt8, Go.Lib.cut s [c] = cutA c s
  | [] => by simp [Go.Lib.cut, cutA, Go.Lib.index]
  | x :: s => by
    have ih := cut_eq c s
    have hge := Go.Lib.index_ge s [c]
    simp only [Go.Lib.cut, cutA, index_one] at ih ⊢
    by_cases h : x = c
    · subst h; simp
    · have hcx : c ≠ x := fun e => h e.symm
      simp only [h, if_false] at ih ⊢
      by_cases h2 : Go.Lib.index s [c] = -1
      · simp only [h2, if_true] at ih ⊢
        simp only [show ¬ ((0 : Int) ≤ -1) by decide, if_false, Prod.mk.injEq] at ih ⊢
        obtain ⟨i1, i2, i3⟩ := ih
        have i3' : c ∉ s := by simpa using i3.symm
        simp only [List.takeWhile_cons, List.dropWhile_cons, h, ← i1, ← i2, decide_false, Bool.not_false, if_true, true_and]
        simp [hcx, i3']
      · have e1 : (0 : Int) ≤ Go.Lib.index s [c] + 1 := by omega
        have e0 : (0 : Int) ≤ Go.Lib.index s [c] := by omega
        have e2 : (Go.Lib.index s [c] + 1).toNat = (Go.Lib.index s [c]).toNat + 1 := by omega
        simp only [h2, if_false, e1, e2, e0, if_true, Prod.mk.injEq] at ih ⊢
        obtain ⟨i1, i2, i3⟩ := ih
        have i3' : c ∈ s := by simpa using i3.symm
        simp only [List.takeWhile_cons, List.dropWhile_cons, h, ← i1, ← i2, decide_false, Bool.not_false, if_true]
        simp [hcx, i3', Nat.add_right_comm]
theorem F_cut_eq {s : List UInt8} (c : UInt8) (h : s.length < 4294967281) : F_cut s [c] = some (cutA c s) := by
  unfold F_cut
  rw [need_true h, cut_eq]
end Go.Ab
/- The reference's Split (own text). -/
set_option linter.unusedVariables false
set_option linter.unusedSimpArgs false
namespace Go.Ab
open Go.RowKit
theorem sub_nat {α : Type} (L : List α) (a b : Nat) : sub L (a : Int) (b : Int) = (L.take b).drop a := by simp [sub]
theorem sub_step {α : Type} {L : List α} {a i : Nat} {x : α} (h : L[i]? = some x) (ha : a ≤ i) : (L.take (i + 1)).drop a = (L.take i).drop a ++ [x] := by
  rw [take_succ h, List.drop_append_of_le_length (by have := get_lt h; rw [List.length_take]; omega)]
theorem Split_eq (s : List UInt8) (c : UInt8) (hs : s.length ≤ 2000000) : F_spec_l01Split s (c.toNat : Int) = some (spl c s) := by
  unfold F_spec_l01Split
  suffices H : ∃ r, loop (F_spec_l01Split_l0 s (c.toNat : Int)) (0, 0, []) = some r ∧ r = spl c s by
    obtain ⟨r, e, hr⟩ := H
    rw [e, hr]
  refine loop_ex (L := s) (fun i st => ∃ a : Nat, st.1 = (a : Int) ∧ st.2.1 = (i : Int) ∧ a ≤ i ∧ st.2.2.length ≤ i ∧ spl c s = st.2.2 ++ ahead ((s.take i).drop a) (spl c (s.drop i))) (by omega)
    ⟨0, rfl, rfl, Nat.le_refl _, Nat.le_refl _, by simp [ahead_nil (spl_ne c s)]⟩ ?_ ?_
  · rintro i ⟨x1, x2, acc⟩ k x hx hi ⟨a, h1, h2, h3, h4, h5⟩ hk
    dsimp only at h1 h2 h4 h5
    subst h1 h2
    have hl := get_lt hx
    simp only [F_spec_l01Split_l0, int_lt hl, ix_get hx, Option.bind_some, bif_t, w64_succ hi, List.length_singleton]
    rw [drop_cons hx] at h5
    by_cases hc : x = c
    · subst hc
      rw [decide_eq_true rfl, bif_t, need_true ⟨by omega, by omega, by omega⟩, need_true (p := room _ _) (show room (acc.length + 1) 16 from ⟨by omega, by omega⟩)]
      rw [spl_hit] at h5
      refine hk _ ⟨i + 1, rfl, rfl, Nat.le_refl _, ?_, ?_⟩
      · simp; omega
      · dsimp only
        rw [h5, sub_nat, show (List.take (i + 1) s).drop (i + 1) = [] from List.drop_eq_nil_of_le (by rw [List.length_take]; omega), ahead_nil (spl_ne _ _)]
        simp
    · have : ¬ ((x.toNat : Int) = (c.toNat : Int)) := fun e => hc (UInt8.toNat_inj.1 (by omega))
      rw [decide_eq_false this, bif_f]
      refine hk _ ⟨a, rfl, rfl, by omega, by dsimp only; omega, ?_⟩
      dsimp only
      rw [spl_miss hc] at h5
      rw [h5, sub_step hx h3]
  · rintro ⟨x1, x2, acc⟩ k ⟨a, h1, h2, h3, h4, h5⟩
    dsimp only at h1 h2 h4 h5
    subst h1 h2
    simp only [F_spec_l01Split_l0, int_lt_self, bif_f, List.length_singleton]
    rw [need_true ⟨by omega, by omega, by omega⟩, need_true (p := room _ _) (show room (acc.length + 1) 16 from ⟨by omega, by omega⟩)]
    refine ⟨_, rfl, ?_⟩
    rw [h5, List.drop_length, spl_nil, sub_nat]
end Go.Ab
/- Digits (own text). -/
set_option linter.unusedVariables false
set_option linter.unusedSimpArgs false
namespace Go.Ab
open Go.RowKit
open Go.Lib (itoa decDigits)
theorem dig_len : ∀ (k u : Nat), u < 10 ^ (k + 1) → (decDigits u).length ≤ k + 1
  | 0, u, h => by rw [decDigits, dif_pos (by simpa using h)]; simp
  | k + 1, u, h => by
    rw [decDigits]
    split
    · simp
    · have := dig_len k (u / 10) (by rw [Nat.pow_succ] at h; omega)
      rw [List.length_append, List.length_singleton]; omega
/-- The digits, none for 0. -/
def dg0 (u : Nat) : List UInt8 := if u = 0 then [] else decDigits u
theorem dg0_step {u : Nat} (h : u ≠ 0) : dg0 u = dg0 (u / 10) ++ [UInt8.ofNat (48 + u % 10)] := by
  unfold dg0
  rw [if_neg h, decDigits]
  by_cases h1 : u < 10
  · rw [dif_pos h1, if_pos (by omega), Nat.mod_eq_of_lt h1]; rfl
  · rw [dif_neg h1, if_neg (by omega)]
end Go.Ab
/- The reference's numerals (own text). -/
set_option linter.unusedVariables false
set_option linter.unusedSimpArgs false
namespace Go.Ab
open Go.RowKit
open Go.Lib (itoa decDigits)
theorem rev_loop (L : List Int) (hL : L.length ≤ 1000) : F_spec_l01Dec_j2 L = some (bytesI L.reverse) := by
  unfold F_spec_l01Dec_j2
  have key : ∀ (m : Nat) (acc : List Int) (n : Nat), m ≤ L.length → m < n → acc = (L.drop m).reverse → iter (F_spec_l01Dec_l3 L) n ((m : Int) - 1, acc) = some (bytesI L.reverse) := by
    intro m
    induction m with
    | zero =>
      intro acc n _ hn ha
      obtain ⟨n, rfl⟩ : ∃ n', n = n' + 1 := ⟨n - 1, by omega⟩
      show F_spec_l01Dec_l3 L (iter (F_spec_l01Dec_l3 L) n) _ = _
      simp only [F_spec_l01Dec_l3]
      rw [decide_eq_false (by omega), bif_f, ha]
      rfl
    | succ m ih =>
      intro acc n hm hn ha
      obtain ⟨n, rfl⟩ : ∃ n', n = n' + 1 := ⟨n - 1, by omega⟩
      show F_spec_l01Dec_l3 L (iter (F_spec_l01Dec_l3 L) n) _ = _
      obtain ⟨x, hx⟩ := get_some (L := L) (n := m) (by omega)
      have e1 : ((m + 1 : Nat) : Int) - 1 = (m : Int) := by omega
      have hl : acc.length ≤ 1000 := by rw [ha]; simp; omega
      simp only [F_spec_l01Dec_l3, e1]
      rw [decide_eq_true (by omega), bif_t, ix_get hx, Option.bind_some, need_true (p := room (acc.length + [x].length) 1) (show room (acc.length + 1) 1 from ⟨by omega, by omega⟩), w64_id (by omega)]
      refine ih _ n (by omega) (by omega) ?_
      rw [ha, drop_cons hx]; simp
  have hw : w64 ((L.length : Int) - 1) = (L.length : Int) - 1 := w64_id (by omega)
  rw [hw]
  exact key L.length [] lim (Nat.le_refl _) (lt_lim (by omega)) (by simp)
theorem l01Dec_eq (n : Int) (h : -9223372036854775808 ≤ n ∧ n ≤ 9223372036854775807) : F_spec_l01Dec n = some (itoa n) := by
  unfold F_spec_l01Dec
  by_cases h0 : n = 0
  · subst h0; rw [decide_eq_true rfl, bif_t]; unfold itoa; rw [if_neg (by omega), decDigits, dif_pos (by decide)]; rfl
  rw [decide_eq_false h0, bif_f]
  suffices H : ∃ r, loop (F_spec_l01Dec_l0 n) (n, []) = some r ∧ r = itoa n by
    obtain ⟨r, e, hr⟩ := H
    rw [e, hr]
  refine loop_mu (fun s => (-9223372036854775808 ≤ s.1 ∧ s.1 ≤ 9223372036854775807) ∧ (s.1 ≠ 0 → (s.1 < 0 ↔ n < 0)) ∧ s.1.natAbs * 10 ^ s.2.length ≤ n.natAbs ∧ s.2.length ≤ 19 ∧ dg0 n.natAbs = dg0 s.1.natAbs ++ bytesI s.2.reverse)
    (fun s => s.1.natAbs) ⟨h, fun _ => Iff.rfl, by simp, by simp, by simp [bytesI]⟩ (by show n.natAbs < lim; unfold lim; omega) ?_
  rintro ⟨v, L⟩ k ⟨hv, hsg, hp, hl, hd⟩ hk
  dsimp only at hv hsg hp hl hd hk
  simp only [F_spec_l01Dec_l0]
  by_cases hz : v = 0
  · subst hz
    rw [decide_eq_false (by simp), bif_f]
    have hd' : decDigits n.natAbs = bytesI L.reverse := by
      have : dg0 n.natAbs = decDigits n.natAbs := if_neg (by omega)
      rw [← this, hd]; simp [dg0]
    by_cases hn : n < 0
    · rw [decide_eq_true hn, bif_t, need_true (p := room (L.length + [(45 : Int)].length) 1) (show room (L.length + 1) 1 from ⟨by omega, by omega⟩), rev_loop _ (by simp; omega)]
      refine ⟨_, rfl, ?_⟩
      unfold itoa
      rw [if_pos hn, hd']
      simp [bytesI]
    · rw [decide_eq_false hn, bif_f, rev_loop _ (by omega)]
      refine ⟨_, rfl, ?_⟩
      unfold itoa
      rw [if_neg hn, show n.toNat = n.natAbs by omega, hd']
  · rw [decide_eq_true hz, bif_t]
    obtain ⟨q1, q2⟩ : Int.tdiv v 10 = (if v < 0 then -((-v) / 10) else v / 10) ∧ Int.tmod v 10 = (if v < 0 then -((-v) % 10) else v % 10) := by
      split
      · rename_i hv
        obtain ⟨u, rfl⟩ : ∃ u : Int, v = -u := ⟨-v, by omega⟩
        rw [Int.neg_tdiv, Int.neg_tmod, Int.tdiv_eq_ediv_of_nonneg (by omega), Int.tmod_eq_emod_of_nonneg (by omega), Int.neg_neg]
        exact ⟨rfl, rfl⟩
      · rw [Int.tdiv_eq_ediv_of_nonneg (by omega), Int.tmod_eq_emod_of_nonneg (by omega)]
        exact ⟨rfl, rfl⟩
    have ht : w64 (Int.tdiv v 10) = Int.tdiv v 10 := w64_id (by omega)
    have htn : (Int.tdiv v 10).natAbs = v.natAbs / 10 := by omega
    have hl2 : L.length + 1 ≤ 19 := by
      by_cases h19 : L.length = 19
      · rw [h19] at hp
        have : 1 ≤ v.natAbs := by omega
        have h2 : 1 * 10 ^ 19 ≤ v.natAbs * 10 ^ 19 := Nat.mul_le_mul_right _ this
        have h3 : n.natAbs ≤ 9223372036854775808 := by omega
        omega
      · omega
    have key : ∀ d : Int, d = (v.natAbs % 10 : Nat) → ∃ r, F_spec_l01Dec_j1 v L k d = some r ∧ r = itoa n := by
      rintro d rfl
      unfold F_spec_l01Dec_j1
      have e1 : IntKind.wrap .u8 (w64 (48 + ((v.natAbs % 10 : Nat) : Int))) = ((48 + v.natAbs % 10 : Nat) : Int) := by
        rw [w64_id (by omega)]
        simp only [IntKind.wrap, IntKind.signed, IntKind.bits]
        have : ((48 + ((v.natAbs % 10 : Nat) : Int)) % 2 ^ 8) = 48 + ((v.natAbs % 10 : Nat) : Int) := Int.emod_eq_of_lt (by omega) (by omega)
        simp [this]
        try omega
      rw [e1, ht, need_true (p := room (L.length + [((48 + v.natAbs % 10 : Nat) : Int)].length) 1) (show room (L.length + 1) 1 from ⟨by omega, by omega⟩)]
      refine hk _ ⟨?_, ?_, ?_, ?_, ?_⟩ ?_
      · dsimp only; omega
      · dsimp only; intro hne; have := hsg hz; rw [← this]; omega
      · dsimp only
        rw [htn, List.length_append, List.length_singleton, Nat.pow_succ]
        refine Nat.le_trans ?_ hp
        rw [Nat.mul_comm (10 ^ L.length) 10, ← Nat.mul_assoc]
        exact Nat.mul_le_mul_right _ (Nat.div_mul_le_self _ _)
      · simp; omega
      · dsimp only
        rw [hd, htn, dg0_step (by omega : v.natAbs ≠ 0)]
        simp only [bytesI, List.reverse_append, List.reverse_singleton, List.singleton_append, List.map_cons, Int.toNat_natCast, List.append_assoc]
      · dsimp only; rw [htn]; omega
    have hm : (Int.tmod v 10).natAbs = v.natAbs % 10 := by omega
    by_cases hneg : Int.tmod v 10 < 0
    · rw [decide_eq_true hneg, bif_t]
      exact key _ (by rw [w64_id (by omega)]; omega)
    · rw [decide_eq_false hneg, bif_f]
      exact key _ (by omega)
end Go.Ab
/- Sums of lines (own text). -/
set_option linter.unusedVariables false
set_option linter.unusedSimpArgs false
namespace Go.Ab
open Go.RowKit
open Go.Lib (itoa decDigits)
def crc1 (v : Int) : Int := bif decide ((65535 : Int) < w64 (v * 2 ^ (min ((1 : Int)).toNat (IntKind.bits .i64)))) then bitXor .i64 (bitAnd .i64 (w64 (v * 2 ^ (min ((1 : Int)).toNat (IntKind.bits .i64)))) 65535) 4129 else w64 (v * 2 ^ (min ((1 : Int)).toNat (IntKind.bits .i64)))
def crcB (v : Int) (b : UInt8) : Int := crc1 (crc1 (crc1 (crc1 (crc1 (crc1 (crc1 (crc1 (bitXor .i64 v (w64 ((w64 ((b.toNat : Int))) * 2 ^ (min ((8 : Int)).toNat (IntKind.bits .i64))))))))))))
theorem iter8 {R : Type} {body : (Int × Int → Option R) → Int × Int → Option R} {fin : Int → Option R} (h1 : ∀ k x (j : Nat), j < 8 → body k (x, (j : Int)) = k (crc1 x, ((j + 1 : Nat) : Int))) (h2 : ∀ k x, body k (x, 8) = fin x) (x : Int) :
    loop body (x, 0) = fin (crc1 (crc1 (crc1 (crc1 (crc1 (crc1 (crc1 (crc1 x)))))))) := by
  have key : ∀ m : Nat, iter body (m + 9) (x, 0) = fin (crc1 (crc1 (crc1 (crc1 (crc1 (crc1 (crc1 (crc1 x)))))))) := by
    intro m
    have s0 := h1 (iter body (m + 8)) x 0 (by omega)
    have s1 := h1 (iter body (m + 7)) (crc1 x) 1 (by omega)
    have s2 := h1 (iter body (m + 6)) (crc1 (crc1 x)) 2 (by omega)
    have s3 := h1 (iter body (m + 5)) (crc1 (crc1 (crc1 x))) 3 (by omega)
    have s4 := h1 (iter body (m + 4)) (crc1 (crc1 (crc1 (crc1 x)))) 4 (by omega)
    have s5 := h1 (iter body (m + 3)) (crc1 (crc1 (crc1 (crc1 (crc1 x))))) 5 (by omega)
    have s6 := h1 (iter body (m + 2)) (crc1 (crc1 (crc1 (crc1 (crc1 (crc1 x)))))) 6 (by omega)
    have s7 := h1 (iter body (m + 1)) (crc1 (crc1 (crc1 (crc1 (crc1 (crc1 (crc1 x))))))) 7 (by omega)
    have s8 := h2 (iter body m) (crc1 (crc1 (crc1 (crc1 (crc1 (crc1 (crc1 (crc1 x))))))))
    exact s0.trans (s1.trans (s2.trans (s3.trans (s4.trans (s5.trans (s6.trans (s7.trans s8)))))))
  exact key (lim - 9)
theorem crc_loop {R : Type} {body : (Int × Int → Option R) → Int × Int → Option R} {s : List UInt8} {fin : Int → R} (hs : s.length ≤ 9223372036854775807)
    (h1 : ∀ k x (i : Nat) b, s[i]? = some b → i < 9223372036854775807 → body k (x, (i : Int)) = k (crcB x b, ((i + 1 : Nat) : Int))) (h2 : ∀ k x, body k (x, (s.length : Int)) = some (fin x)) (x : Int) : loop body (x, 0) = some (fin (s.foldl crcB x)) := by
  suffices H : ∃ r, loop body (x, 0) = some r ∧ r = fin (s.foldl crcB x) by
    obtain ⟨r, e, hr⟩ := H
    rw [e, hr]
  refine loop_ex (L := s) (fun i st => st.2 = (i : Int) ∧ s.foldl crcB x = (s.drop i).foldl crcB st.1) hs ⟨rfl, rfl⟩ ?_ ?_
  · rintro i ⟨v, j⟩ k b hb hi ⟨rfl, hv⟩ hk
    rw [h1 k v i b hb hi]
    refine hk _ ⟨rfl, ?_⟩
    rw [hv, drop_cons hb]; rfl
  · rintro ⟨v, j⟩ k ⟨rfl, hv⟩
    rw [h2]
    refine ⟨_, rfl, ?_⟩
    rw [hv, List.drop_length]; rfl
theorem l01Crc_eq (s : List UInt8) (v : Int) (hs : s.length ≤ 9223372036854775807) : F_spec_l01Crc s v = some (s.foldl crcB v) := by
  unfold F_spec_l01Crc
  refine crc_loop (fin := fun x => x) hs ?_ ?_ v
  · intro k x i b hb hi
    simp only [F_spec_l01Crc_l0, int_lt (get_lt hb), ix_get hb, Option.bind_some, bif_t]
    rw [need_true (by decide)]
    rw [iter8 (fin := fun y => k (y, ((i + 1 : Nat) : Int)))]
    · rfl
    · intro k2 y j hj
      simp only [F_spec_l01Crc_l1]
      rw [decide_eq_true (by omega), bif_t, need_true (by decide), w64_succ (by omega)]
      unfold crc1
      cases decide ((65535 : Int) < w64 (y * 2 ^ (min ((1 : Int)).toNat (IntKind.bits .i64)))) <;> rfl
    · intro k2 y
      simp only [F_spec_l01Crc_l1]
      rw [decide_eq_false (by omega), bif_f, w64_succ hi]
  · intro k x
    simp only [F_spec_l01Crc_l0, int_lt_self, bif_f]
theorem Crc16_eq (s : List UInt8) (hs : s.length ≤ 9223372036854775807) : F_impl_Crc16 s 65535 = some (s.foldl crcB 65535) := by
  unfold F_impl_Crc16
  rw [show F_impl_within 65535 0 65535 = some true from rfl]
  simp only [Option.bind_some, Bool.not_true, bif_f]
  refine crc_loop (fin := fun x => x) hs ?_ ?_ 65535
  · intro k x i b hb hi
    simp only [F_impl_Crc16_l2, int_lt (get_lt hb), ix_get hb, Option.bind_some, bif_t]
    rw [need_true (by decide)]
    rw [iter8 (fin := fun y => k (y, ((i + 1 : Nat) : Int)))]
    · rfl
    · intro k2 y j hj
      simp only [F_impl_Crc16_l3]
      rw [decide_eq_true (by omega), bif_t, need_true (by decide), w64_succ (by omega)]
      unfold crc1
      cases decide ((65535 : Int) < w64 (y * 2 ^ (min ((1 : Int)).toNat (IntKind.bits .i64)))) <;> rfl
    · intro k2 y
      simp only [F_impl_Crc16_l3]
      rw [decide_eq_false (by omega), bif_f, w64_succ hi]
  · intro k x
    simp only [F_impl_Crc16_l2, int_lt_self, bif_f]
theorem xor_rng {a b : Int} (ha : 0 ≤ a ∧ a ≤ 65535) (hb : 0 ≤ b ∧ b ≤ 65535) : 0 ≤ bitXor .i64 a b ∧ bitXor .i64 a b ≤ 65535 := by
  obtain ⟨m, rfl⟩ : ∃ m : Nat, a = (m : Int) := ⟨a.toNat, by omega⟩
  obtain ⟨n, rfl⟩ : ∃ n : Nat, b = (n : Int) := ⟨b.toNat, by omega⟩
  unfold bitXor
  have h1 : (BitVec.ofInt (IntKind.bits .i64) (m : Int) ^^^ BitVec.ofInt (IntKind.bits .i64) (n : Int)).toNat = m ^^^ n := by
    have t : ∀ k : Nat, k ≤ 65535 → (BitVec.ofInt (IntKind.bits .i64) (k : Int)).toNat = k := by
      intro k hk
      rw [BitVec.toNat_ofInt]
      show ((k : Int) % (2 ^ 64 : Nat)).toNat = k
      omega
    rw [BitVec.toNat_xor, t m (by omega), t n (by omega)]
  have h2 : m ^^^ n < 2 ^ 16 := Nat.xor_lt_two_pow (by omega) (by omega)
  rw [h1]
  have : IntKind.wrap .i64 ((m ^^^ n : Nat) : Int) = ((m ^^^ n : Nat) : Int) := w64_id (by omega)
  rw [this]
  omega
theorem and_rng (a : Int) : 0 ≤ bitAnd .i64 a 65535 ∧ bitAnd .i64 a 65535 ≤ 65535 := by
  unfold bitAnd
  have h2 : (BitVec.ofInt (IntKind.bits .i64) a &&& BitVec.ofInt (IntKind.bits .i64) 65535).toNat < 2 ^ 16 := by
    rw [BitVec.toNat_and]
    exact Nat.and_lt_two_pow _ (by decide)
  have : IntKind.wrap .i64 ((BitVec.ofInt (IntKind.bits .i64) a &&& BitVec.ofInt (IntKind.bits .i64) 65535).toNat : Int) = ((BitVec.ofInt (IntKind.bits .i64) a &&& BitVec.ofInt (IntKind.bits .i64) 65535).toNat : Int) := w64_id (by omega)
  rw [this]
  omega
theorem crc1_rng {v : Int} (h : 0 ≤ v ∧ v ≤ 65535) : 0 ≤ crc1 v ∧ crc1 v ≤ 65535 := by
  unfold crc1
  have e : v * 2 ^ (min ((1 : Int)).toNat (IntKind.bits .i64)) = v * 2 := rfl
  rw [e, w64_id (by omega)]
  cases hd : decide ((65535 : Int) < v * 2)
  · have := of_decide_eq_false hd
    rw [bif_f]; omega
  · rw [bif_t]; exact xor_rng (and_rng _) (by decide)
theorem crcB_rng {v : Int} (b : UInt8) (h : 0 ≤ v ∧ v ≤ 65535) : 0 ≤ crcB v b ∧ crcB v b ≤ 65535 := by
  unfold crcB
  have hb : b.toNat < 256 := UInt8.toNat_lt b
  have e : w64 ((w64 ((b.toNat : Int))) * 2 ^ (min ((8 : Int)).toNat (IntKind.bits .i64))) = (b.toNat : Int) * 256 := by
    have e : (2 : Int) ^ (min ((8 : Int)).toNat (IntKind.bits .i64)) = 256 := rfl
    rw [e, w64_id (by omega : -9223372036854775808 ≤ (b.toNat : Int) ∧ _), w64_id (by omega)]
  rw [e]
  exact crc1_rng (crc1_rng (crc1_rng (crc1_rng (crc1_rng (crc1_rng (crc1_rng (crc1_rng (xor_rng h ⟨by omega, by omega⟩))))))))
theorem crc_rng (s : List UInt8) : ∀ {v : Int}, 0 ≤ v ∧ v ≤ 65535 → 0 ≤ s.foldl crcB v ∧ s.foldl crcB v ≤ 65535 := by
  induction s with
  | nil => intro v h; exact h
  | cons b t ih => intro v h; exact ih (crcB_rng b h)
/-- The five digits of a line's sum. -/
def five (s : List UInt8) : List UInt8 := Go.Lib.repeatL [48] (5 - (itoa (s.foldl crcB 65535)).length) ++ itoa (s.foldl crcB 65535)
theorem itoa5 {n : Int} (h : 0 ≤ n ∧ n ≤ 65535) : (itoa n).length ≤ 5 := by
  unfold itoa
  rw [if_neg (by omega)]
  exact dig_len 4 _ (by omega)
theorem pad_loop : ∀ (m : Nat) (t : List UInt8), t.length + m = 5 → loop F_spec_l29Five_l0 t = some (Go.Lib.repeatL [48] m ++ t) := by
  intro m t h
  have key : ∀ (m : Nat) (t : List UInt8) (n : Nat), t.length + m = 5 → m < n → iter F_spec_l29Five_l0 n t = some (Go.Lib.repeatL [48] m ++ t) := by
    intro m
    induction m with
    | zero =>
      intro t n h hn
      obtain ⟨n, rfl⟩ : ∃ n', n = n' + 1 := ⟨n - 1, by omega⟩
      show F_spec_l29Five_l0 (iter F_spec_l29Five_l0 n) t = _
      simp only [F_spec_l29Five_l0]
      rw [decide_eq_false (by omega), bif_f]
      rfl
    | succ m ih =>
      intro t n h hn
      obtain ⟨n, rfl⟩ : ∃ n', n = n' + 1 := ⟨n - 1, by omega⟩
      show F_spec_l29Five_l0 (iter F_spec_l29Five_l0 n) t = _
      simp only [F_spec_l29Five_l0]
      rw [decide_eq_true (by omega), bif_t, need_true (by simp; omega), ih _ n (by simp; omega) (by omega)]
      have : ∀ m : Nat, Go.Lib.repeatL [48] m ++ [48] = 48 :: Go.Lib.repeatL [48] m := by
        intro m
        induction m with
        | zero => rfl
        | succ m ih => simp only [Go.Lib.repeatL, List.cons_append, List.nil_append, ih]
      rw [← List.append_assoc, this]; rfl
  exact key m t lim h (lt_lim (by omega))
theorem five_eq (s : List UInt8) : F_spec_l29Five (s.foldl crcB 65535) = some (five s) := by
  have hr := crc_rng s (v := 65535) (by decide)
  have h5 := itoa5 hr
  unfold F_spec_l29Five
  rw [l01Dec_eq _ (by omega), Option.bind_some, pad_loop (5 - (itoa (s.foldl crcB 65535)).length) _ (by omega)]
  rfl
theorem checkText_eq (s : List UInt8) (hs : s.length ≤ 9223372036854775807) : F_impl_checkText s = some (five s) := by
  have hr := crc_rng s (v := 65535) (by decide)
  have h5 := itoa5 hr
  unfold F_impl_checkText F_impl_Decimal F_formatInt F_repeat
  rw [Crc16_eq s hs]
  simp only [Option.bind_some]
  rw [need_true ⟨by decide, by omega, by omega⟩]
  simp only [Option.bind_some]
  have e : w64 (5 - ((itoa (s.foldl crcB 65535)).length : Int)) = ((5 - (itoa (s.foldl crcB 65535)).length : Nat) : Int) := by rw [w64_id (by omega)]; omega
  rw [e, need_true ⟨by omega, by omega, by simp; omega⟩]
  simp only [Option.bind_some, Int.toNat_natCast]
  rw [need_true (by rw [Go.Lib.repeatL_length]; simp; omega)]
  rfl
theorem five_len (s : List UInt8) : (five s).length = 5 := by
  have h5 := itoa5 (crc_rng s (v := 65535) (by decide))
  unfold five
  rw [List.length_append, Go.Lib.repeatL_length]; simp; omega
end Go.Ab
/- A line of a library's text read as a block (own text). -/
set_option linter.unusedVariables false
set_option linter.unusedSimpArgs false
namespace Go.Ab
open Go.RowKit
theorem scan_loop {ρ : Type} {body : (Int → Option ρ) → Int → Option ρ} {s : List UInt8} (c : UInt8) {fin : Int → Option ρ} (hs : s.length ≤ 9223372036854775807)
    (step : ∀ k (i : Nat) b, s[i]? = some b → i < 9223372036854775807 → body k (i : Int) = bif decide (b = c) then fin (i : Int) else k ((i + 1 : Nat) : Int))
    (done : ∀ k (i : Nat), s.length ≤ i → body k (i : Int) = fin (i : Int)) (a : Nat) : loop body (a : Int) = fin ((a + ((s.drop a).takeWhile (fun x => !decide (x = c))).length : Nat) : Int) := by
  have key : ∀ (m a n : Nat), s.length - a ≤ m → m < n → iter body n (a : Int) = fin ((a + ((s.drop a).takeWhile (fun x => !decide (x = c))).length : Nat) : Int) := by
    intro m
    induction m with
    | zero =>
      intro a n h hn
      obtain ⟨n, rfl⟩ : ∃ n', n = n' + 1 := ⟨n - 1, by omega⟩
      show body (iter body n) _ = _
      rw [done _ _ (by omega), List.drop_eq_nil_of_le (by omega)]
      simp
    | succ m ih =>
      intro a n h hn
      obtain ⟨n, rfl⟩ : ∃ n', n = n' + 1 := ⟨n - 1, by omega⟩
      show body (iter body n) _ = _
      by_cases ha : a < s.length
      · obtain ⟨x, hx⟩ := get_some ha
        rw [step _ _ _ hx (by omega), drop_cons hx]
        by_cases hc : x = c
        · rw [decide_eq_true hc, bif_t, List.takeWhile_cons]; simp [hc]
        · rw [decide_eq_false hc, bif_f, ih (a + 1) n (by omega) (by omega), List.takeWhile_cons]
          simp only [hc, decide_false, Bool.not_false, if_true, List.length_cons]
          congr 1; omega
      · rw [done _ _ (by omega), List.drop_eq_nil_of_le (by omega)]
        simp
  exact key s.length a lim (by omega) (lt_lim hs)
theorem tw_split (c : UInt8) : ∀ s : List UInt8, (c ∈ s → s = s.takeWhile (fun x => !decide (x = c)) ++ c :: (s.dropWhile (fun x => !decide (x = c))).tail) ∧ (c ∉ s → s.takeWhile (fun x => !decide (x = c)) = s ∧ s.dropWhile (fun x => !decide (x = c)) = [])
  | [] => by simp
  | x :: s => by
    obtain ⟨h1, h2⟩ := tw_split c s
    by_cases hx : x = c
    · subst hx; simp
    · have hcx : ¬ c = x := fun e => hx e.symm
      simp only [List.takeWhile_cons, List.dropWhile_cons, hx, decide_false, Bool.not_false, if_true, List.mem_cons, hcx, false_or, List.cons_append, List.cons.injEq, true_and]
      exact ⟨h1, h2⟩
/-- The three parts of a line behind its sum. -/
def parts (r : List UInt8) : Option TBlock := bif (cutA 32 (cutA 32 r).2.1).2.2 then some ((cutA 32 r).1, (cutA 32 (cutA 32 r).2.1).1, (cutA 32 (cutA 32 r).2.1).2.1) else none
def noBlk (n : Int) : TBlock × Int := (([], [], []), n)
def blkEnd (o : Option TBlock) : TBlock × Int := match o with
  | none => noBlk 9
  | some b => bif blkOk b then (b, 0) else noBlk 9
/-- A line read. -/
def blkOf (s : List UInt8) : TBlock × Int := if s.length < 6 then noBlk 9 else if s[5]? ≠ some 32 then noBlk 9 else if s.take 5 ≠ five (s.drop 6) then noBlk 10 else blkEnd (parts (s.drop 6))
theorem cutA_len (c : UInt8) (s : List UInt8) : (cutA c s).1.length ≤ s.length ∧ (cutA c s).2.1.length ≤ s.length := by
  constructor
  · exact (List.takeWhile_prefix _).length_le
  · show (List.tail _).length ≤ _
    rw [List.length_tail]
    have := (List.dropWhile_suffix (l := s) (fun x => !decide (x = c))).length_le
    omega
theorem ix_five {s : List UInt8} (h : 6 ≤ s.length) : ∃ x, ix s 5 = some x ∧ s[5]? = some x := by
  obtain ⟨x, hx⟩ := get_some (L := s) (n := 5) (by omega)
  exact ⟨x, ix_get hx, hx⟩
theorem sub_six (s : List UInt8) : sub s 6 (s.length : Int) = s.drop 6 := by
  have := sub_nat s 6 s.length
  rw [take_all (Nat.le_refl _)] at this
  exact this
theorem sub_first (s : List UInt8) : sub s 0 5 = s.take 5 := sub_nat s 0 5
theorem b32 (x : UInt8) : ((x.toNat : Int) = 32) ↔ x = 32 := by
  constructor
  · intro h; exact UInt8.toNat_inj.1 (by show x.toNat = 32; omega)
  · rintro rfl; rfl
theorem parse_tail (s : List UInt8) (hs : s.length ≤ 2000000) : loop (F_spec_l29Parse_l2 s) 0 = some (blkEnd (parts (s.drop 6))) := by
  generalize hr : s.drop 6 = r
  have hrl : r.length ≤ 2000000 := by rw [← hr, List.length_drop]; omega
  have e6 : sub s 6 (s.length : Int) = r := by rw [sub_six, hr]
  have j3 : ∀ (p q : Nat), p + 1 ≤ q → F_spec_l29Parse_j3 s (p : Int) (q : Int) = if r.length ≤ q then some (noBlk 9) else some (blkEnd (some (r.take p, (r.take q).drop (p + 1), r.drop (q + 1)))) := by
    intro p q hpq
    unfold F_spec_l29Parse_j3
    simp only [e6]
    by_cases h : r.length ≤ q
    · rw [decide_eq_true (by omega), bif_t, if_pos h]; rfl
    · have e0 : sub r 0 (p : Int) = r.take p := sub_nat r 0 p
      have e1 : sub r ((p + 1 : Nat) : Int) (q : Int) = (r.take q).drop (p + 1) := sub_nat r _ _
      have e2 : sub r ((q + 1 : Nat) : Int) (r.length : Int) = r.drop (q + 1) := by rw [sub_nat, take_all (Nat.le_refl _)]
      rw [decide_eq_false (by omega), bif_f, if_neg h, w64_succ (by omega), w64_succ (by omega), need_true ⟨by omega, by omega, by omega⟩, need_true ⟨by omega, by omega, by omega⟩, need_true ⟨by omega, by omega, by omega⟩, e0, e1, e2,
        l29One_eq _ (by simp; omega) (by simp; omega) (by simp; omega)]
      simp only [Option.bind_some, blkEnd, noBlk]
      cases blkOk (r.take p, (r.take q).drop (p + 1), r.drop (q + 1)) <;> rfl
  have l4 : ∀ p : Nat, p ≤ 2000000 → F_spec_l29Parse_j1 s (p : Int) = F_spec_l29Parse_j3 s (p : Int) ((p + 1 + ((r.drop (p + 1)).takeWhile (fun x => !decide (x = 32))).length : Nat) : Int) := by
    intro p hp
    unfold F_spec_l29Parse_j1
    rw [w64_succ (by omega)]
    refine scan_loop (fin := F_spec_l29Parse_j3 s (p : Int)) 32 (s := r) (by omega) ?_ ?_ (p + 1)
    · intro k i b hb hi
      simp only [F_spec_l29Parse_l4, e6, int_lt (get_lt hb), ix_get hb, Option.bind_some, bif_t, w64_succ hi]
      by_cases h : b = 32
      · rw [decide_eq_true h, bif_t, decide_eq_false (by rw [h]; decide), bif_f]
      · rw [decide_eq_false h, bif_f, decide_eq_true (by rw [Ne, b32]; exact h), bif_t]
    · intro k i hi
      simp only [F_spec_l29Parse_l4, e6]
      rw [decide_eq_false (by omega), bif_f]
  have := scan_loop (body := F_spec_l29Parse_l2 s) (fin := F_spec_l29Parse_j1 s) 32 (s := r) (by omega) ?_ ?_ 0
  · refine this.trans ?_
    rw [List.drop_zero, Nat.zero_add]
    have tl := (List.takeWhile_prefix (l := r) (fun x => !decide (x = 32))).length_le
    rw [l4 _ (by omega), j3 _ _ (by omega)]
    obtain ⟨t1, t2⟩ := tw_split 32 r
    by_cases hc : (32 : UInt8) ∈ r
    · have hsp := t1 hc
      generalize hP : r.takeWhile (fun x => !decide (x = 32)) = P at *
      generalize hT : (r.dropWhile (fun x => !decide (x = 32))).tail = T at *
      have hd : r.drop (P.length + 1) = T := by rw [hsp]; simp
      have hP1 : r.take P.length = P := by rw [hsp]; simp
      have hlen : r.length = P.length + 1 + T.length := by rw [hsp]; simp; omega
      have cA : cutA 32 r = (P, T, true) := by unfold cutA; rw [hP, hT, decide_eq_true hc]
      rw [hd]
      unfold parts
      rw [cA]
      dsimp only
      obtain ⟨u1, u2⟩ := tw_split 32 T
      by_cases hc2 : (32 : UInt8) ∈ T
      · have hsp2 := u1 hc2
        have cB : cutA 32 T = (T.takeWhile (fun x => !decide (x = 32)), (T.dropWhile (fun x => !decide (x = 32))).tail, true) := by unfold cutA; rw [decide_eq_true hc2]
        rw [cB]
        generalize hP2 : T.takeWhile (fun x => !decide (x = 32)) = P2 at *
        generalize hT2 : (T.dropWhile (fun x => !decide (x = 32))).tail = T2 at *
        have hlen2 : T.length = P2.length + 1 + T2.length := by rw [hsp2]; simp; omega
        rw [if_neg (by omega)]
        dsimp only
        rw [bif_t, hP1]
        have e1 : (r.take (P.length + 1 + P2.length)).drop (P.length + 1) = P2 := by
          rw [List.drop_take, hd, hsp2]; simp
        have e2 : r.drop (P.length + 1 + P2.length + 1) = T2 := by
          have : r.drop (P.length + 1 + P2.length + 1) = (r.drop (P.length + 1)).drop (P2.length + 1) := by rw [List.drop_drop]; congr 1
          rw [this, hd, hsp2]; simp
        rw [e1, e2]
      · have cB : (cutA 32 T).2.2 = false := by show decide _ = false; exact decide_eq_false hc2
        rw [cB, (u2 hc2).1, if_pos (by omega)]
        rfl
    · have cA : cutA 32 r = (r, [], false) := by unfold cutA; rw [(t2 hc).1, (t2 hc).2, decide_eq_false hc]; rfl
      rw [(t2 hc).1, if_pos (by omega)]
      unfold parts
      rw [cA]
      rfl
  · intro k i b hb hi
    simp only [F_spec_l29Parse_l2, e6, int_lt (get_lt hb), ix_get hb, Option.bind_some, bif_t, w64_succ hi]
    by_cases h : b = 32
    · rw [decide_eq_true h, bif_t, decide_eq_false (by rw [h]; decide), bif_f]
    · rw [decide_eq_false h, bif_f, decide_eq_true (by rw [Ne, b32]; exact h), bif_t]
  · intro k i hi
    simp only [F_spec_l29Parse_l2, e6]
    rw [decide_eq_false (by omega), bif_f]
theorem l29Parse_eq (s : List UInt8) (hs : s.length ≤ 2000000) : F_spec_l29Parse s = some (blkOf s) := by
  unfold F_spec_l29Parse blkOf
  by_cases h6 : s.length < 6
  · rw [decide_eq_true (by omega), bif_t, if_pos h6]; rfl
  rw [decide_eq_false (by omega), bif_f, if_neg h6]
  obtain ⟨x, hx, hx5⟩ := ix_five (s := s) (by omega)
  rw [hx, Option.bind_some, hx5]
  by_cases h32 : x = 32
  · subst h32
    rw [decide_eq_false (by simp), bif_f, need_true ⟨by omega, by omega, by omega⟩, need_true ⟨by omega, by omega, by omega⟩, sub_six, l01Crc_eq _ _ (by simp; omega), Option.bind_some, five_eq, Option.bind_some, sub_first, if_neg (by simp), parse_tail s hs, bif_dec]
    split <;> rfl
  · rw [decide_eq_true (by rw [Ne, b32]; exact h32), bif_t, if_pos (by simpa using h32)]; rfl
theorem blockOf_eq (s : List UInt8) (hs : s.length ≤ 2000000) : F_impl_blockOf s = some (blkOf s) := by
  unfold F_impl_blockOf blkOf
  by_cases h6 : s.length < 6
  · rw [decide_eq_true (by omega), bif_t, if_pos h6]; rfl
  rw [decide_eq_false (by omega), bif_f, if_neg h6]
  obtain ⟨x, hx, hx5⟩ := ix_five (s := s) (by omega)
  rw [hx, Option.bind_some, hx5]
  by_cases h32 : x = 32
  · subst h32
    rw [decide_eq_false (by simp)]
    unfold F_impl_blockOf_j1
    rw [bif_f, need_true ⟨by omega, by omega, by omega⟩, need_true ⟨by omega, by omega, by omega⟩, sub_six, checkText_eq _ (by simp; omega), Option.bind_some, sub_first, if_neg (by simp), bif_dec]
    split
    · rfl
    · unfold F_impl_blockOf_j0
      have hl : (s.drop 6).length ≤ 2000000 := by simp; omega
      obtain ⟨c1, c2⟩ := cutA_len 32 (s.drop 6)
      obtain ⟨c3, c4⟩ := cutA_len 32 (cutA 32 (s.drop 6)).2.1
      rw [need_true ⟨by omega, by omega, by omega⟩, sub_six, F_cut_eq _ (by omega), Option.bind_some, F_cut_eq _ (by omega), Option.bind_some]
      unfold parts
      cases h : (cutA 32 (cutA 32 (s.drop 6)).2.1).2.2
      · rfl
      · rw [Bool.not_true, bif_f, bif_t, ValidBlock_eq _ (by dsimp only; omega) (by dsimp only; omega), Option.bind_some]
        dsimp only [blkEnd]
        cases blkOk ((cutA 32 (s.drop 6)).1, (cutA 32 (cutA 32 (s.drop 6)).2.1).1, (cutA 32 (cutA 32 (s.drop 6)).2.1).2.1) <;> rfl
  · rw [decide_eq_true (by rw [Ne, b32]; exact h32), if_pos (by simpa using h32)]; rfl
end Go.Ab
/- Numerals read back (own text). -/
set_option linter.unusedVariables false
set_option linter.unusedSimpArgs false
namespace Go.Ab
open Go.RowKit
open Go.Lib (itoa decDigits)
def dgt (c : UInt8) : Bool := decide (48 ≤ c.toNat ∧ c.toNat ≤ 57)
def val1 (a : Nat) (c : UInt8) : Nat := a * 10 + (c.toNat - 48)
def val (d : List UInt8) : Nat := d.foldl val1 0
theorem val_snoc (d : List UInt8) (c : UInt8) : val (d ++ [c]) = val d * 10 + (c.toNat - 48) := by unfold val; rw [List.foldl_append]; rfl
theorem byte_at {k : Nat} (h : k < 10) : (UInt8.ofNat (48 + k)).toNat = 48 + k := by
  rw [UInt8.toNat_ofNat']; omega
theorem head_app {a b : List UInt8} (h : a ≠ []) : (a ++ b).head? = a.head? := by
  cases a with
  | nil => exact absurd rfl h
  | cons => rfl
theorem dig_val (u : Nat) : val (decDigits u) = u ∧ (decDigits u).all dgt = true ∧ decDigits u ≠ [] ∧ (u ≠ 0 → (decDigits u).head? ≠ some 48) := by
  induction u using Nat.strongRecOn with
  | _ u ih =>
    rw [decDigits]
    by_cases h : u < 10
    · rw [dif_pos h]
      have hb := byte_at h
      refine ⟨?_, ?_, by simp, ?_⟩
      · show 0 * 10 + ((UInt8.ofNat (48 + u)).toNat - 48) = u; omega
      · simp only [List.all_cons, List.all_nil, Bool.and_true, dgt]; exact decide_eq_true (by omega)
      · intro hu e
        simp only [List.head?_cons, Option.some.injEq] at e
        rw [e] at hb
        have : (48 : UInt8).toNat = 48 := rfl
        omega
    · rw [dif_neg h]
      obtain ⟨h1, h2, h3, h4⟩ := ih (u / 10) (by omega)
      have hb := byte_at (k := u % 10) (by omega)
      refine ⟨?_, ?_, by simp, ?_⟩
      · rw [val_snoc, h1, hb]; omega
      · rw [List.all_append, h2, Bool.true_and]
        simp only [List.all_cons, List.all_nil, Bool.and_true, dgt]; exact decide_eq_true (by omega)
      · intro _
        rw [head_app h3]
        exact h4 (by omega)
theorem val_pos {c : UInt8} {d : List UInt8} (hc : dgt c = true) (h0 : c ≠ 48) : 1 ≤ val (c :: d) := by
  have hk : ∀ (d : List UInt8) (a : Nat), 1 ≤ a → 1 ≤ d.foldl val1 a := by
    intro d
    induction d with
    | nil => intro a h; exact h
    | cons x d ih => intro a h; exact ih _ (by unfold val1; omega)
  refine hk d _ ?_
  unfold val1
  have h1 := of_decide_eq_true hc
  have : c.toNat ≠ 48 := fun e => h0 (UInt8.toNat_inj.1 e)
  omega
theorem val_dig : ∀ (n : Nat) (d : List UInt8), d.length = n → d.all dgt = true → d ≠ [] → (d.head? = some 48 → d.length = 1) → decDigits (val d) = d
  | 0, d, hn, _, h0, _ => absurd (List.eq_nil_of_length_eq_zero hn) h0
  | n + 1, d, hn, ha, h0, h48 => by
    obtain ⟨d', c, rfl⟩ : ∃ d' c, d = d' ++ [c] := ⟨d.dropLast, d.getLast h0, (List.dropLast_concat_getLast h0).symm⟩
    rw [List.all_append, Bool.and_eq_true] at ha
    have hc : dgt c = true := by simpa using ha.2
    have hc' := of_decide_eq_true hc
    have hcb : UInt8.ofNat (48 + (c.toNat - 48)) = c := by
      apply UInt8.toNat_inj.1
      rw [byte_at (by omega)]; omega
    rw [val_snoc, decDigits]
    by_cases hd : d' = []
    · subst hd
      have : val [] = 0 := rfl
      rw [this, dif_pos (by omega)]
      simp only [Nat.zero_mul, Nat.zero_add, hcb, List.nil_append]
    · have hl : d'.length = n := by rw [List.length_append, List.length_singleton] at hn; omega
      have hd1 : 1 ≤ d'.length := List.length_pos_iff.2 hd
      have hh : d'.head? ≠ some 48 := by
        intro e
        have := h48 (by rw [head_app hd]; exact e)
        rw [List.length_append, List.length_singleton] at this
        omega
      have ih := val_dig n d' hl ha.1 hd (fun e => absurd e hh)
      have hpos : 1 ≤ val d' := by
        cases d' with
        | nil => exact absurd rfl hd
        | cons x t =>
          have hx : dgt x = true := by have := ha.1; rw [List.all_cons, Bool.and_eq_true] at this; exact this.1
          exact val_pos hx (fun e => hh (by rw [e]; rfl))
      rw [dif_neg (by omega), show (val d' * 10 + (c.toNat - 48)) / 10 = val d' by omega, ih, show (val d' * 10 + (c.toNat - 48)) % 10 = c.toNat - 48 by omega, hcb]
theorem val_lt (d : List UInt8) : d.all dgt = true → ∀ a : Nat, d.foldl val1 a < (a + 1) * 10 ^ d.length := by
  induction d with
  | nil => intro _ a; simp
  | cons c d ih =>
    intro ha a
    rw [List.all_cons, Bool.and_eq_true] at ha
    have hc := of_decide_eq_true ha.1
    have h1 := ih ha.2 (val1 a c)
    have h2 : (val1 a c + 1) * 10 ^ d.length ≤ (a + 1) * 10 * 10 ^ d.length := Nat.mul_le_mul_right _ (by unfold val1; omega)
    rw [List.length_cons, Nat.pow_succ, Nat.mul_comm (10 ^ d.length) 10, ← Nat.mul_assoc]
    exact Nat.lt_of_lt_of_le h1 h2
theorem parse_dig (M : Nat) (hM : 10 ^ 18 ≤ M) : ∀ (d : List UInt8) (a : Nat), d.all dgt = true → (a + 1) * 10 ^ d.length ≤ 10 ^ 18 → Go.Lib.parseUintM M a d = .ok (d.foldl val1 a)
  | [], a, _, _ => rfl
  | c :: d, a, ha, hb => by
    rw [List.all_cons, Bool.and_eq_true] at ha
    have hc := of_decide_eq_true ha.1
    have hpow : 1 ≤ 10 ^ d.length := Nat.one_le_pow _ _ (by decide)
    rw [List.length_cons, Nat.pow_succ, Nat.mul_comm (10 ^ d.length) 10, ← Nat.mul_assoc] at hb
    have hb1 : (a + 1) * 10 * 1 ≤ (a + 1) * 10 * 10 ^ d.length := Nat.mul_le_mul_left _ hpow
    have h2 : (val1 a c + 1) * 10 ^ d.length ≤ (a + 1) * 10 * 10 ^ d.length := Nat.mul_le_mul_right _ (by unfold val1; omega)
    rw [Go.Lib.parseUintM, if_pos hc, if_neg (by omega), if_neg (by omega)]
    exact parse_dig M hM d (val1 a c) ha.2 (Nat.le_trans h2 hb)
/-- The number that a text is the numeral of. -/
def isNum (s : List UInt8) (v : Int) : Prop := s = itoa v ∧ (decDigits v.natAbs).length ≤ 18
theorem itoa_abs (v : Int) : itoa v = if v < 0 then 45 :: decDigits v.natAbs else decDigits v.natAbs := by
  unfold itoa
  split
  · rfl
  · rw [show v.toNat = v.natAbs by omega]
theorem dig_head (u : Nat) : ∃ c t, decDigits u = c :: t ∧ dgt c = true := by
  obtain ⟨_, h2, h3, _⟩ := dig_val u
  cases h : decDigits u with
  | nil => exact absurd h h3
  | cons c t =>
    rw [h, List.all_cons, Bool.and_eq_true] at h2
    exact ⟨c, t, rfl, h2.1⟩
theorem num_small {v : Int} (h : (decDigits v.natAbs).length ≤ 18) : v.natAbs < 10 ^ 18 := by
  obtain ⟨h1, h2, _, _⟩ := dig_val v.natAbs
  have := val_lt (decDigits v.natAbs) h2 0
  have e : (decDigits v.natAbs).foldl val1 0 = v.natAbs := h1
  rw [e, Nat.zero_add, Nat.one_mul] at this
  exact Nat.lt_of_lt_of_le this (Nat.pow_le_pow_right (by decide) h)
theorem num_inj {v v' : Int} (h : itoa v = itoa v') : v = v' := by
  rw [itoa_abs, itoa_abs] at h
  have key : ∀ u u' : Nat, decDigits u = decDigits u' → u = u' := fun u u' e => by rw [← (dig_val u).1, ← (dig_val u').1, e]
  have no : ∀ u u' : Nat, ¬ 45 :: decDigits u = decDigits u' := by
    intro u u' e
    obtain ⟨c, t, e2, hc⟩ := dig_head u'
    rw [e2] at e
    simp only [List.cons.injEq] at e
    rw [← e.1] at hc
    exact absurd hc (by decide)
  split at h <;> split at h
  · have := key _ _ (List.cons.inj h).2; omega
  · exact absurd h (no _ _)
  · exact absurd h.symm (no _ _)
  · have := key _ _ h; omega
theorem trim_itoa (v : Int) : Go.Lib.trimPrefix (itoa v) [45] = decDigits v.natAbs := by
  rw [itoa_abs]
  unfold Go.Lib.trimPrefix Go.Lib.hasPrefix
  split
  · simp
  · obtain ⟨c, t, e, hc⟩ := dig_head v.natAbs
    rw [e]
    have : c ≠ 45 := fun e => by rw [e] at hc; exact absurd hc (by decide)
    simp [List.isPrefixOf, this, Ne.symm this]
theorem parse_itoa {v : Int} (h : (decDigits v.natAbs).length ≤ 18) : Go.Lib.parseIntB 64 (itoa v) = .ok v := by
  obtain ⟨h1, h2, h3, _⟩ := dig_val v.natAbs
  have hs := num_small h
  obtain ⟨c, t, e, hc⟩ := dig_head v.natAbs
  have hc' := of_decide_eq_true hc
  have hp : Go.Lib.parseUintB 64 (decDigits v.natAbs) = .ok v.natAbs := by
    unfold Go.Lib.parseUintB
    rw [if_neg h3, parse_dig _ (by decide) _ 0 h2 (by rw [Nat.zero_add, Nat.one_mul]; exact Nat.pow_le_pow_right (by decide) h)]
    exact congrArg _ h1
  rw [itoa_abs]
  split
  · rename_i hv
    unfold Go.Lib.parseIntB
    dsimp only
    have e45 : (45 : UInt8).toNat = 45 := rfl
    rw [if_pos (Or.inr e45), hp]
    dsimp only
    rw [if_neg (by simp [e45]), if_neg (by rintro ⟨_, h⟩; omega), if_pos e45]
    congr 1; omega
  · rename_i hv
    unfold Go.Lib.parseIntB
    rw [e]
    dsimp only
    rw [e] at hp
    rw [if_neg (by omega), hp]
    dsimp only
    have : ¬ c.toNat = 45 := by omega
    rw [if_neg (by rintro ⟨_, h⟩; omega), if_neg (by rintro ⟨h, _⟩; exact this h), if_neg this]
    congr 1; omega
theorem readDec_num {s : List UInt8} {v : Int} (h : isNum s v) : readDec s = (v, true) := by
  obtain ⟨rfl, h⟩ := h
  unfold readDec
  rw [parse_itoa h]
  dsimp only
  rw [trim_itoa, if_neg (by simp; omega)]
theorem readDec_no {s : List UInt8} (h : ∀ v, ¬ isNum s v) : readDec s = (0, false) := by
  unfold readDec
  split
  · rename_i v hv
    split
    · rfl
    · rename_i hn
      simp only [not_or, Decidable.not_not, Nat.not_lt] at hn
      obtain ⟨h1, h2⟩ := hn
      refine absurd ⟨h2.symm, ?_⟩ (h v)
      rw [← h2, trim_itoa] at h1
      exact h1
  · rfl
end Go.Ab
/- The reference's numerals read back (own text). -/
set_option linter.unusedVariables false
set_option linter.unusedSimpArgs false
namespace Go.Ab
open Go.RowKit
open Go.Lib (itoa decDigits)
theorem u8_sub {c : UInt8} (h : dgt c = true) : w64 (IntKind.wrap .u8 ((c.toNat : Int) - 48)) = ((c.toNat - 48 : Nat) : Int) := by
  have hc := of_decide_eq_true h
  have e1 : IntKind.wrap .u8 ((c.toNat : Int) - 48) = ((c.toNat - 48 : Nat) : Int) := by
    simp only [IntKind.wrap, IntKind.signed, IntKind.bits]
    have : (((c.toNat : Int) - 48) % 2 ^ 8) = (c.toNat : Int) - 48 := Int.emod_eq_of_lt (by omega) (by omega)
    simp [this]
    try omega
  rw [e1, w64_id (by omega)]
theorem digit_eq (c : UInt8) : F_spec_l01Digit (c.toNat : Int) = some (dgt c) := by
  unfold F_spec_l01Digit dgt
  by_cases h : 48 ≤ c.toNat
  · rw [decide_eq_true (by omega), bif_t]
    congr 1
    by_cases h2 : c.toNat ≤ 57
    · rw [decide_eq_true (by omega), decide_eq_true (by omega)]
    · rw [decide_eq_false (by omega), decide_eq_false (by omega)]
  · rw [decide_eq_false (by omega), bif_f, decide_eq_false (by omega)]
theorem num_loop (s : List UInt8) (a : Nat) (ha : a ≤ 1) (hle : a ≤ s.length) (h18 : s.length - a ≤ 18) : F_spec_l01Number_j1 s (a : Int) = some (if (s.drop a).all dgt = true then (if a = 1 then -(val (s.drop a) : Int) else (val (s.drop a) : Int), true) else (0, false)) := by
  unfold F_spec_l01Number_j1
  suffices H : ∃ r, loop (F_spec_l01Number_l2 s (a : Int)) (0, (a : Int)) = some r ∧ r = (if (s.drop a).all dgt = true then (if a = 1 then -(val (s.drop a) : Int) else (val (s.drop a) : Int), true) else (0, false)) by
    obtain ⟨r, e, hr⟩ := H
    rw [e, hr]
  refine loop_mu (fun st => ∃ i : Nat, st.2 = (i : Int) ∧ a ≤ i ∧ i ≤ s.length ∧ st.1 = (val ((s.take i).drop a) : Int) ∧ ((s.take i).drop a).all dgt = true) (fun st => ((s.length : Int) - st.2).toNat) ⟨a, rfl, Nat.le_refl _, hle, ?_, ?_⟩ (by show ((s.length : Int) - (a : Int)).toNat < lim; unfold lim; omega) ?_
  · rw [List.drop_eq_nil_of_le (by rw [List.length_take]; omega)]; rfl
  · rw [List.drop_eq_nil_of_le (by rw [List.length_take]; omega)]; rfl
  · rintro ⟨n, j⟩ k ⟨i, h1, h2, h3, h4, h5⟩ hk
    dsimp only at h1 h4 hk
    subst h1 h4
    simp only [F_spec_l01Number_l2]
    by_cases hi : i < s.length
    · obtain ⟨c, hc⟩ := get_some hi
      have hst := sub_step hc h2
      rw [decide_eq_true (by omega), bif_t, ix_get hc, Option.bind_some, digit_eq, Option.bind_some]
      cases hd : dgt c
      · rw [Bool.not_false, bif_t]
        refine ⟨_, rfl, ?_⟩
        have hm : c ∈ s.drop a := by
          rw [List.mem_iff_getElem?]
          exact ⟨i - a, by rw [List.getElem?_drop, show a + (i - a) = i by omega]; exact hc⟩
        rw [if_neg]
        intro hall
        rw [List.all_eq_true] at hall
        rw [hall c hm] at hd
        cases hd
      · rw [Bool.not_true, bif_f, Option.bind_some, u8_sub hd]
        have hl := val_lt _ h5 0
        rw [Nat.zero_add, Nat.one_mul] at hl
        have hl2 : 10 ^ ((s.take i).drop a).length ≤ 10 ^ 17 := Nat.pow_le_pow_right (by decide) (by rw [List.length_drop, List.length_take]; omega)
        have hv : val ((s.take i).drop a) < 10 ^ 17 := Nat.lt_of_lt_of_le hl hl2
        have hcb : c.toNat < 256 := UInt8.toNat_lt c
        have e1 : w64 (10 * (val ((s.take i).drop a) : Int)) = 10 * (val ((s.take i).drop a) : Int) := w64_id (by omega)
        rw [e1, w64_id (by omega), w64_succ (by omega)]
        refine hk _ ⟨i + 1, rfl, by omega, by omega, ?_, ?_⟩ (by dsimp only; omega)
        · dsimp only
          rw [hst, val_snoc]; omega
        · rw [hst, List.all_append, h5]; simp [hd]
    · have : i = s.length := by omega
      subst this
      rw [take_all (Nat.le_refl _)] at h5 ⊢
      rw [decide_eq_false (by omega), bif_f, if_pos h5]
      have hl := val_lt _ h5 0
      rw [Nat.zero_add, Nat.one_mul] at hl
      have hl2 : 10 ^ (s.drop a).length ≤ 10 ^ 18 := Nat.pow_le_pow_right (by decide) (by rw [List.length_drop]; omega)
      have hv : val (s.drop a) < 10 ^ 18 := Nat.lt_of_lt_of_le hl hl2
      by_cases h1 : a = 1
      · subst h1
        rw [show decide (((1 : Nat) : Int) = (1 : Int)) = true from rfl, bif_t, w64_id (by omega), if_pos rfl]
        exact ⟨_, rfl, by simp⟩
      · rw [decide_eq_false (by omega), bif_f, if_neg h1]
        exact ⟨_, rfl, rfl⟩
/-- What a text reads as, its sign taken off. -/
def numAt (s : List UInt8) (a : Nat) : Int × Bool := if s.drop a = [] ∨ 18 < (s.drop a).length ∨ ((s.drop a).head? = some 48 ∧ 1 < s.length) ∨ ¬ (s.drop a).all dgt = true then (0, false) else (if a = 1 then -(val (s.drop a) : Int) else (val (s.drop a) : Int), true)
theorem j0_eq (s : List UInt8) (a : Nat) (ha : a ≤ 1) (hle : a ≤ s.length) (hs : s.length ≤ 9223372036854775806) : F_spec_l01Number_j0 s (a : Int) = some (numAt s a) := by
  unfold F_spec_l01Number_j0 numAt
  by_cases h0 : s.length = a
  · rw [decide_eq_true (by omega), bif_t, if_pos (Or.inl (List.drop_eq_nil_of_le (by omega)))]
  have hne : s.drop a ≠ [] := by intro e; have := congrArg List.length e; rw [List.length_drop] at this; simp at this; omega
  rw [decide_eq_false (by omega), bif_f, w64_id (by omega)]
  by_cases h18 : 18 < s.length - a
  · rw [decide_eq_true (by omega), bif_t, if_pos (Or.inr (Or.inl (by rw [List.length_drop]; omega)))]
  rw [decide_eq_false (by omega), bif_f]
  obtain ⟨x, hx⟩ := get_some (L := s) (n := a) (by omega)
  have hh : (s.drop a).head? = some x := by rw [drop_cons hx]; rfl
  rw [ix_get hx, Option.bind_some, num_loop s a ha hle (by omega)]
  have b48 : ((x.toNat : Int) = 48) ↔ x = 48 := by
    constructor
    · intro h; exact UInt8.toNat_inj.1 (by show x.toNat = 48; omega)
    · rintro rfl; rfl
  have fin : ∀ hn : ¬ ((s.drop a).head? = some 48 ∧ 1 < s.length), some (if (s.drop a).all dgt = true then (if a = 1 then -(val (s.drop a) : Int) else (val (s.drop a) : Int), true) else ((0 : Int), false)) = some (if s.drop a = [] ∨ 18 < (s.drop a).length ∨ ((s.drop a).head? = some 48 ∧ 1 < s.length) ∨ ¬ (s.drop a).all dgt = true then (0, false) else (if a = 1 then -(val (s.drop a) : Int) else (val (s.drop a) : Int), true)) := by
    intro hn
    congr 1
    by_cases hall : (s.drop a).all dgt = true
    · rw [if_pos hall]
      refine (if_neg ?_).symm
      rintro (h | h | h | h)
      · exact hne h
      · rw [List.length_drop] at h; omega
      · exact hn h
      · exact h hall
    · rw [if_neg hall]
      exact (if_pos (Or.inr (Or.inr (Or.inr hall)))).symm
  by_cases hx48 : x = 48
  · rw [decide_eq_true (b48.2 hx48), bif_t]
    by_cases h1 : 1 < s.length
    · rw [decide_eq_true (by omega), bif_t, if_pos (Or.inr (Or.inr (Or.inl ⟨by rw [hh, hx48], h1⟩)))]
    · rw [decide_eq_false (by omega), bif_f]
      exact fin (fun h => h1 h.2)
  · rw [decide_eq_false (fun e => hx48 (b48.1 e)), bif_f]
    exact fin (fun h => hx48 (by rw [hh] at h; exact Option.some.inj h.1))
theorem numAt_eq (s : List UInt8) (a : Nat) (h : a = if s.head? = some 45 then 1 else 0) : numAt s a = readDec s := by
  have back : ∀ v, isNum s v → ¬ (s.drop a = [] ∨ 18 < (s.drop a).length ∨ ((s.drop a).head? = some 48 ∧ 1 < s.length) ∨ ¬ (s.drop a).all dgt = true) ∧ (if a = 1 then -(val (s.drop a) : Int) else (val (s.drop a) : Int)) = v := by
    rintro v ⟨hs, hl⟩
    obtain ⟨q1, q2, q3, q4⟩ := dig_val v.natAbs
    rw [itoa_abs] at hs
    by_cases hv : v < 0
    · rw [if_pos hv] at hs
      have ha : a = 1 := by rw [h, hs]; rfl
      subst ha
      have hd : s.drop 1 = decDigits v.natAbs := by rw [hs]; rfl
      rw [hd, q1]
      refine ⟨?_, by rw [if_pos rfl]; omega⟩
      rintro (e | e | e | e)
      · exact q3 e
      · omega
      · exact q4 (by omega) e.1
      · exact e q2
    · rw [if_neg hv] at hs
      have ha : a = 0 := by
        rw [h, if_neg]
        rw [hs]
        obtain ⟨c, t, e, hc⟩ := dig_head v.natAbs
        rw [e]
        intro e2
        simp only [List.head?_cons, Option.some.injEq] at e2
        rw [e2] at hc
        exact absurd hc (by decide)
      subst ha
      rw [List.drop_zero]
      refine ⟨?_, by rw [hs, q1, if_neg (by decide)]; omega⟩
      rintro (e | e | e | e)
      · rw [hs] at e; exact q3 e
      · rw [hs] at e; omega
      · obtain ⟨e1, e2⟩ := e
        rw [hs] at e1 e2
        by_cases hu : v.natAbs = 0
        · rw [hu, decDigits, dif_pos (by decide)] at e2; simp at e2
        · exact q4 hu e1
      · rw [hs] at e; exact e q2
  unfold numAt
  by_cases hc : s.drop a = [] ∨ 18 < (s.drop a).length ∨ ((s.drop a).head? = some 48 ∧ 1 < s.length) ∨ ¬ (s.drop a).all dgt = true
  · rw [if_pos hc, readDec_no (fun v hv => (back v hv).1 hc)]
  · rw [if_neg hc]
    simp only [not_or, Decidable.not_not] at hc
    obtain ⟨c1, c2, c3, c4⟩ := hc
    have hdig : decDigits (val (s.drop a)) = s.drop a := val_dig _ _ rfl c4 c1 (by
      intro e
      have hs1 : s.length ≤ 1 := by
        apply Decidable.byContradiction
        intro hn
        exact c3 ⟨e, by omega⟩
      have : 1 ≤ (s.drop a).length := List.length_pos_iff.2 c1
      rw [List.length_drop] at this ⊢
      omega)
    by_cases hh : s.head? = some 45
    · have ha : a = 1 := by rw [h, if_pos hh]
      subst ha
      obtain ⟨t, rfl⟩ : ∃ t, s = 45 :: t := by
        cases s with
        | nil => cases hh
        | cons x t => simp only [List.head?_cons, Option.some.injEq] at hh; exact ⟨t, by rw [hh]⟩
      have hd1 : (45 :: t).drop 1 = t := rfl
      rw [hd1] at c1 c2 c3 c4 hdig ⊢
      have hpos : val t ≠ 0 := by
        intro e
        have e0 : decDigits 0 = [48] := by rw [decDigits, dif_pos (by decide)]; rfl
        rw [e, e0] at hdig
        rw [← hdig] at c3
        exact c3 ⟨rfl, by simp⟩
      rw [if_pos rfl]
      refine (readDec_num ⟨?_, ?_⟩).symm
      · rw [itoa_abs, if_pos (by omega), show (-(val t : Int)).natAbs = val t by omega, hdig]
      · rw [show (-(val t : Int)).natAbs = val t by omega, hdig]; omega
    · have ha : a = 0 := by rw [h, if_neg hh]
      subst ha
      rw [List.drop_zero] at *
      rw [if_neg (by decide)]
      refine (readDec_num ⟨?_, ?_⟩).symm
      · rw [itoa_abs, if_neg (by omega), show ((val s : Int)).natAbs = val s by omega, hdig]
      · rw [show ((val s : Int)).natAbs = val s by omega, hdig]; omega
theorem Number_eq (s : List UInt8) (hs : s.length ≤ 9223372036854775806) : F_spec_l01Number s = some (readDec s) := by
  unfold F_spec_l01Number
  cases s with
  | nil =>
    rw [decide_eq_false (by simp), bif_f]
    exact (j0_eq [] 0 (by decide) (by simp) hs).trans (by rw [numAt_eq [] 0 rfl])
  | cons x t =>
    rw [decide_eq_true (by rw [List.length_cons]; omega), bif_t, ix_zero, Option.bind_some]
    have b45 : ((x.toNat : Int) = 45) ↔ x = 45 := by
      constructor
      · intro h; exact UInt8.toNat_inj.1 (by show x.toNat = 45; omega)
      · rintro rfl; rfl
    by_cases hx : x = 45
    · rw [decide_eq_true (b45.2 hx), bif_t]
      exact (j0_eq (x :: t) 1 (by decide) (by rw [List.length_cons]; omega) hs).trans (by rw [numAt_eq _ 1 (by rw [hx]; rfl)])
    · rw [decide_eq_false (fun e => hx (b45.1 e)), bif_f]
      exact (j0_eq (x :: t) 0 (by decide) (by omega) hs).trans (by rw [numAt_eq _ 0 (by rw [if_neg]; simpa using hx)])
end Go.Ab
/- ValidBlocks: the program's and the reference's (own text). -/
set_option linter.unusedVariables false
set_option linter.unusedSimpArgs false
namespace Go.Ab
open Go.RowKit
def cmpS (a b : List UInt8) : Int := if Op.bytesLess a b = true then -1 else if a = b then 0 else 1
theorem Compare_eq (a b : List UInt8) : F_cmp_Compare_string a b = some (cmpS a b) := by
  unfold F_cmp_Compare_string F_cmp_isNaN_string cmpS
  cases h : Op.bytesLess a b <;> by_cases h2 : a = b <;> simp [h2]
theorem Or_eq (x y : Int) : F_cmp_Or_int [x, y] = some (if x = 0 then y else x) := by
  unfold F_cmp_Or_int
  have := loop_sfx (body := F_cmp_Or_int_l0 [x, y]) (L := [x, y]) (fun t => (t.find? (fun z => decide (z ≠ 0))).getD 0) (by simp) ?_ ?_
  · rw [this]
    by_cases h1 : x = 0 <;> by_cases h2 : y = 0 <;> simp [h1, h2]
  · intro i k a t ha hi hk
    simp only [F_cmp_Or_int_l0, int_lt (get_lt ha), bif_t, ix_get ha, Option.bind_some, w64_succ hi, bif_dec, hk]
    by_cases h : a = 0 <;> simp [h]
  · intro k
    simp only [F_cmp_Or_int_l0, int_lt_self, bif_f]
    rfl
/-- How blocks are ordered. -/
def blkBef (a b : TBlock) : Bool := Op.bytesLess a.1 b.1 || (decide (a.1 = b.1) && Op.bytesLess a.2.1 b.2.1)
def blkCmp (a b : TBlock) : Int := if cmpS a.1 b.1 = 0 then cmpS a.2.1 b.2.1 else cmpS a.1 b.1
theorem compareBlocks_eq (a b : TBlock) : F_impl_compareBlocks a b = some (blkCmp a b) := by
  unfold F_impl_compareBlocks blkCmp
  simp only [Compare_eq, Option.bind_some, Or_eq]
theorem cmpS_zero (a b : List UInt8) : cmpS a b = 0 ↔ a = b := by
  unfold cmpS
  by_cases h : Op.bytesLess a b = true
  · rw [if_pos h]
    constructor
    · intro h; omega
    · rintro rfl; rw [bytes_irrefl] at h; cases h
  · rw [if_neg h]
    by_cases h2 : a = b
    · simp [h2]
    · rw [if_neg h2]; constructor
      · intro h; omega
      · intro h; exact absurd h h2
theorem cmpS_neg (a b : List UInt8) : cmpS a b < 0 ↔ Op.bytesLess a b = true := by
  unfold cmpS
  by_cases h : Op.bytesLess a b = true
  · rw [if_pos h]; simp [h]
  · rw [if_neg h]
    constructor
    · intro h3; exfalso; split at h3 <;> omega
    · intro h3; exact absurd h3 h
theorem blkCmp_bef (a b : TBlock) : decide (0 ≤ blkCmp a b) = !blkBef a b := by
  have e : blkBef a b = true ↔ blkCmp a b < 0 := by
    unfold blkBef blkCmp
    by_cases h : a.1 = b.1
    · rw [if_pos ((cmpS_zero _ _).2 h), cmpS_neg, h, bytes_irrefl]; simp
    · rw [if_neg (fun e => h ((cmpS_zero _ _).1 e)), cmpS_neg]; simp [h]
  cases h : blkBef a b
  · exact decide_eq_true (by have : ¬ blkCmp a b < 0 := fun h2 => by rw [e.2 h2] at h; cases h
                             omega)
  · exact decide_eq_false (by have := e.1 h; omega)
theorem l29Before_eq (a b : TBlock) : F_spec_l29Before a b = some (blkBef a b) := by
  unfold F_spec_l29Before blkBef
  cases Op.bytesLess a.1 b.1 <;> by_cases h : a.1 = b.1 <;> simp [h]
abbrev OkBlocks (A : List TBlock) : Prop := OkL OkBlock A
end Go.Ab
/- Archives read: what stands behind the loops (own text). -/
set_option linter.unusedVariables false
set_option linter.unusedSimpArgs false
namespace Go.Ab
open Go.RowKit
open Go.Lib (itoa decDigits join)
theorem spl_app (c : UInt8) : ∀ (a r : List UInt8), c ∉ a → spl c (a ++ c :: r) = a :: spl c r
  | [], r, _ => by simp [spl]
  | x :: a, r, h => by
    have hx : x ≠ c := fun e => h (by simp [e])
    have ih := spl_app c a r (fun e => h (by simp [e]))
    simp only [List.cons_append, spl, hx, if_false, ih, ahead]
    rfl
theorem spl_none (c : UInt8) : ∀ a : List UInt8, c ∉ a → spl c a = [a]
  | [], _ => rfl
  | x :: a, h => by
    have hx : x ≠ c := fun e => h (by simp [e])
    simp only [spl, hx, if_false, spl_none c a (fun e => h (by simp [e])), ahead]
    rfl
theorem spl_end (c : UInt8) : ∀ t : List UInt8, spl c (t ++ [c]) = spl c t ++ [[]]
  | [] => by simp [spl]
  | x :: t => by
    have ih := spl_end c t
    by_cases hx : x = c
    · subst hx; simp [spl, ih]
    · simp only [List.cons_append, spl, hx, if_false, ih]
      cases h : spl c t with
      | nil => exact absurd h (spl_ne c t)
      | cons y l => rfl
theorem spl_last (c : UInt8) : ∀ s : List UInt8, (∃ t, s = t ++ [c]) ∨ (s = [] ∨ ∃ z, (spl c s).getLast? = some z ∧ z ≠ [])
  | [] => .inr (.inl rfl)
  | x :: s => by
    rcases spl_last c s with ⟨t, rfl⟩ | rfl | ⟨z, hz, hne⟩
    · exact .inl ⟨x :: t, rfl⟩
    · by_cases hx : x = c
      · subst hx; exact .inl ⟨[], rfl⟩
      · exact .inr (.inr ⟨[x], by simp [spl, hx, ahead], by simp⟩)
    · refine .inr (.inr ?_)
      by_cases hx : x = c
      · refine ⟨z, ?_, hne⟩
        simp only [spl, hx, if_true]
        cases h : spl c s with
        | nil => exact absurd h (spl_ne c s)
        | cons y l => rw [h] at hz; rw [List.getLast?_cons_cons]; exact hz
      · simp only [spl, hx, if_false]
        cases h : spl c s with
        | nil => exact absurd h (spl_ne c s)
        | cons y l =>
          rw [h] at hz
          cases l with
          | nil => exact ⟨x :: y, by simp [ahead], by simp⟩
          | cons w l => exact ⟨z, by simp only [ahead]; rw [List.getLast?_cons_cons] at hz ⊢; exact hz, hne⟩
theorem blank_itoa (n : Int) : (32 : UInt8) ∉ itoa n := by
  intro h
  obtain ⟨_, h2, _, _⟩ := dig_val n.natAbs
  have key : (32 : UInt8) ∉ decDigits n.natAbs := by
    intro h
    have := List.all_eq_true.1 h2 _ h
    exact absurd this (by decide)
  rw [itoa_abs] at h
  split at h
  · rcases List.mem_cons.1 h with h | h
    · exact absurd h (by decide)
    · exact key h
  · exact key h
theorem readDec_blank {r : List UInt8} (h : (32 : UInt8) ∈ r) : readDec r = (0, false) := readDec_no (by
  rintro v ⟨e, _⟩
  rw [e] at h
  exact blank_itoa _ h)
def ARC : List UInt8 := [97, 114, 99, 104, 105, 118, 101]
/-- The first line's number. -/
def headN (l : List UInt8) : Option Int := if Go.Lib.hasPrefix l (ARC ++ [32]) = true ∧ (readDec (l.drop 8)).2 = true ∧ 0 ≤ (readDec (l.drop 8)).1 ∧ (readDec (l.drop 8)).1 ≤ 32 then some (readDec (l.drop 8)).1 else none
theorem join_ahead' (p sep : List UInt8) (l : List (List UInt8)) (h : l ≠ []) : join (ahead p l) sep = p ++ join l sep := by
  cases l with
  | nil => exact absurd rfl h
  | cons x t => simp only [ahead, Go.Lib.join_cons, List.append_assoc]
theorem join_spl' (c : UInt8) : ∀ s : List UInt8, join (spl c s) [c] = s
  | [] => rfl
  | x :: s => by
    have ih := join_spl' c s
    by_cases hx : x = c
    · subst hx
      simp only [spl, if_true]
      cases h : spl x s with
      | nil => exact absurd h (spl_ne x s)
      | cons y t =>
        rw [h, Go.Lib.join_cons] at ih
        rw [Go.Lib.join_cons]
        simp only [Go.Lib.joinTail, List.map_cons, List.flatten_cons, List.nil_append, List.cons_append, List.singleton_append] at ih ⊢
        rw [← ih]
    · simp only [spl, hx, if_false]
      rw [join_ahead' _ _ _ (spl_ne c s), ih]; rfl
/-- The blocks of the lines. -/
def ld (n : Int) : Int → List TBlock → List (List UInt8) → List TBlock × Int × Int
  | _, acc, [] => if (acc.length : Int) ≠ n then ([], 0, 11) else (acc, 0, 0)
  | pos, acc, l :: t => if (blkOf l).2 ≠ 0 then ([], pos, (blkOf l).2) else (match acc.getLast? with
    | some q => if blkBef q (blkOf l).1 = true then ld n (pos + 1) (acc ++ [(blkOf l).1]) t else ([], pos, 7)
    | none => ld n (pos + 1) (acc ++ [(blkOf l).1]) t)
end Go.Ab
/- LoadBlocks (own text). -/
set_option linter.unusedVariables false
set_option linter.unusedSimpArgs false
namespace Go.Ab
open Go.RowKit
open Go.Lib (itoa decDigits join)
theorem l00In_eq (n a b : Int) : F_spec_l00In n a b = some (decide (a ≤ n ∧ n ≤ b)) := by
  unfold F_spec_l00In
  by_cases h : a ≤ n
  · rw [decide_eq_true h, bif_t]; simp [h]
  · rw [decide_eq_false h, bif_f]; simp [h]
theorem within_eq (n a b : Int) : F_impl_within n a b = some (decide (a ≤ n ∧ n ≤ b)) := by
  unfold F_impl_within
  by_cases h : a ≤ n
  · rw [decide_eq_true h, bif_t]; simp [h]
  · rw [decide_eq_false h, bif_f]; simp [h]
theorem pre_iff (l : List UInt8) : Go.Lib.hasPrefix l (ARC ++ [32]) = true ↔ ∃ r, l = ARC ++ 32 :: r := by
  unfold Go.Lib.hasPrefix
  rw [List.isPrefixOf_iff_prefix]
  constructor
  · rintro ⟨r, h⟩; exact ⟨r, by rw [← h]; simp⟩
  · rintro ⟨r, h⟩; exact ⟨r, by rw [h]; simp⟩
/-- The reference's first line. -/
theorem head_spec (l : List UInt8) (hl : l.length ≤ 2000000) : ∃ n ok, F_spec_l29Head l = some (n, ok) ∧ headN l = (if ok = true then some n else none) := by
  unfold F_spec_l29Head
  have hs : F_spec_l01Split l 32 = some (spl 32 l) := Split_eq l 32 hl
  rw [hs, Option.bind_some]
  have hA : (32 : UInt8) ∉ ARC := by decide
  by_cases hp : Go.Lib.hasPrefix l (ARC ++ [32]) = true
  · obtain ⟨r, hr⟩ := (pre_iff l).1 hp
    have hd : l.drop 8 = r := by rw [hr]; rfl
    have hrl : r.length ≤ 2000000 := by rw [← hd, List.length_drop]; omega
    have hsp : spl 32 l = ARC :: spl 32 r := by rw [hr]; exact spl_app 32 ARC r hA
    rw [hsp]
    by_cases h32 : (32 : UInt8) ∈ r
    · have hlen : 2 ≤ (spl 32 r).length := by
        cases h : spl 32 r with
        | nil => exact absurd h (spl_ne 32 r)
        | cons y t =>
          cases t with
          | nil =>
            have := join_spl' 32 r
            rw [h, Go.Lib.join_one] at this
            have hy := (spl_sum 32 r y (by rw [h]; simp)).2
            rw [this] at hy
            exact absurd h32 hy
          | cons z t => simp
      rw [decide_eq_true (by rw [List.length_cons]; omega), bif_t]
      refine ⟨0, false, rfl, ?_⟩
      unfold headN
      rw [hd, readDec_blank h32, if_neg (by simp)]; rfl
    · rw [spl_none 32 r h32]
      have i0 : ix [ARC, r] 0 = some ARC := rfl
      have i1 : ix [ARC, r] 1 = some r := rfl
      rw [decide_eq_false (by simp), bif_f, i0, Option.bind_some, decide_eq_false (by simp [ARC]), bif_f, i1, Option.bind_some, Number_eq r (by omega), Option.bind_some]
      unfold headN
      rw [hd]
      cases h2 : (readDec r).2
      · rw [bif_f]
        exact ⟨_, false, rfl, by rw [if_neg (by simp)]; rfl⟩
      · rw [bif_t, l00In_eq, Option.bind_some]
        refine ⟨_, _, rfl, ?_⟩
        by_cases h3 : 0 ≤ (readDec r).1 ∧ (readDec r).1 ≤ 32
        · rw [if_pos ⟨hp, rfl, h3.1, h3.2⟩, if_pos (decide_eq_true h3)]
        · rw [if_neg (fun h => h3 ⟨h.2.2.1, h.2.2.2⟩), if_neg (by rw [decide_eq_false h3]; simp)]
  · have hno : headN l = none := by unfold headN; rw [if_neg (fun h => hp h.1)]
    have fin : ∃ n ok, some ((0 : Int), false) = some (n, ok) ∧ headN l = (if ok = true then some n else none) := ⟨0, false, rfl, by rw [hno]; rfl⟩
    by_cases h2 : (spl 32 l).length = 2
    · obtain ⟨a, b, e⟩ : ∃ a b, spl 32 l = [a, b] := by
        match spl 32 l, h2 with
        | [a, b], _ => exact ⟨a, b, rfl⟩
      rw [e]
      have i0 : ix [a, b] 0 = some a := rfl
      have hne : a ≠ ARC := by
        intro ha
        have hj := join_spl' 32 l
        rw [e, Go.Lib.join_cons] at hj
        refine hp ((pre_iff l).2 ⟨b, ?_⟩)
        rw [← hj, ha]; simp [Go.Lib.joinTail]
      rw [decide_eq_false (by simp), bif_f, i0, Option.bind_some, decide_eq_true (show a ≠ [97, 114, 99, 104, 105, 118, 101] from hne), bif_t]
      exact fin
    · rw [decide_eq_true (by omega), bif_t]
      exact fin
theorem room48 {L : List TBlock} {b : TBlock} (h : L.length ≤ 2000000) : room (L.length + [b].length) 48 := by
  show room (L.length + 1) 48
  exact ⟨by omega, by omega⟩
theorem last_ix {A : List TBlock} (h : 0 < A.length) : ∃ q, A.getLast? = some q ∧ ix A ((A.length - 1 : Nat) : Int) = some q := by
  obtain ⟨q, hq⟩ := get_some (L := A) (n := A.length - 1) (by omega)
  exact ⟨q, by rw [List.getLast?_eq_getElem?]; exact hq, ix_get hq⟩
theorem load_spec (K : List (List UInt8)) (e : Bool) (n : Int) (ok : Bool) (hK : K.length ≤ 1048577) (hm : ∀ x ∈ K, x.length ≤ 2000000) (h1 : 1 ≤ K.length) : loop (F_spec_LoadBlocks_l0 (K, e) (n, ok)) (1, []) = some (ld n 2 [] (K.drop 1)) := by
  suffices H : ∃ r, loop (F_spec_LoadBlocks_l0 (K, e) (n, ok)) (1, []) = some r ∧ r = ld n 2 [] (K.drop 1) by
    obtain ⟨r, e, hr⟩ := H
    rw [e, hr]
  refine loop_mu (fun st => ∃ i : Nat, st.1 = (i : Int) ∧ 1 ≤ i ∧ i ≤ K.length ∧ st.2.length + 1 = i ∧ ld n 2 [] (K.drop 1) = ld n ((i + 1 : Nat) : Int) st.2 (K.drop i)) (fun st => ((K.length : Int) - st.1).toNat) ⟨1, rfl, by omega, h1, rfl, rfl⟩ (by show ((K.length : Int) - 1).toNat < lim; unfold lim; omega) ?_
  rintro ⟨j, acc⟩ k ⟨i, q1, q2, q3, q4, q5⟩ hk
  dsimp only at q1 q4 q5 hk
  subst q1
  simp only [F_spec_LoadBlocks_l0]
  by_cases hi : i < K.length
  · obtain ⟨x, hx⟩ := get_some hi
    rw [decide_eq_true (by omega), bif_t, ix_get hx, Option.bind_some, l29Parse_eq x (hm x (get_mem hx)), Option.bind_some, w64_succ (by omega)]
    rw [drop_cons hx] at q5
    have hgo : ld n 2 [] (K.drop 1) = ld n ((i + 1 + 1 : Nat) : Int) (acc ++ [(blkOf x).1]) (K.drop (i + 1)) → ∃ r, k (((i + 1 : Nat) : Int), acc ++ [(blkOf x).1]) = some r ∧ r = ld n 2 [] (K.drop 1) := fun h => hk _ ⟨i + 1, rfl, by omega, by omega, by simp; omega, h⟩ (by dsimp only; omega)
    have ep : ((i + 1 : Nat) : Int) + 1 = ((i + 1 + 1 : Nat) : Int) := by omega
    by_cases hc : (blkOf x).2 ≠ 0
    · rw [decide_eq_true hc, bif_t]
      simp only [ld, if_pos hc] at q5
      exact ⟨_, rfl, q5.symm⟩
    · rw [decide_eq_false hc, bif_f]
      simp only [ld, if_neg hc] at q5
      by_cases ha : 0 < acc.length
      · obtain ⟨q, hq, hqi⟩ := last_ix ha
        have ew : w64 ((acc.length : Int) - 1) = ((acc.length - 1 : Nat) : Int) := by rw [w64_id (by omega)]; omega
        rw [hq] at q5
        dsimp only at q5
        rw [decide_eq_true (by omega), bif_t, ew, hqi, Option.bind_some, l29Before_eq, Option.bind_some]
        cases hb : blkBef q (blkOf x).1
        · rw [hb] at q5
          rw [Bool.not_false, bif_t]
          exact ⟨_, rfl, by rw [q5, if_neg (by simp)]⟩
        · rw [hb, if_pos rfl, ep] at q5
          rw [Bool.not_true, bif_f, need_true (room48 (by omega))]
          exact hgo q5
      · have : acc = [] := List.eq_nil_of_length_eq_zero (by omega)
        subst this
        rw [decide_eq_false (by simp), bif_f, need_true (room48 (by simp))]
        simp only [List.getLast?_nil] at q5
        rw [ep] at q5
        exact hgo q5
  · have : i = K.length := by omega
    subst this
    rw [List.drop_length] at q5
    simp only [ld] at q5
    rw [decide_eq_false (by omega), bif_f]
    by_cases hn : (acc.length : Int) ≠ n
    · rw [if_pos hn] at q5
      rw [decide_eq_true hn, bif_t]
      exact ⟨_, rfl, q5.symm⟩
    · rw [if_neg hn] at q5
      rw [decide_eq_false hn, bif_f]
      exact ⟨_, rfl, q5.symm⟩
theorem load_impl (K : List (List UInt8)) (n : Int) (ok : Bool) (hK : K.length ≤ 1048577) (hm : ∀ x ∈ K, x.length ≤ 2000000) (h1 : 1 ≤ K.length) : loop (F_impl_LoadBlocks_l2 K (n, ok)) (0, []) = some (ld n 2 [] (K.drop 1)) := by
  have e1 : sub K 1 (K.length : Int) = K.drop 1 := by
    have := sub_nat K 1 K.length
    rw [take_all (Nat.le_refl _)] at this
    exact this
  suffices H : ∃ r, loop (F_impl_LoadBlocks_l2 K (n, ok)) (0, []) = some r ∧ r = ld n 2 [] (K.drop 1) by
    obtain ⟨r, e, hr⟩ := H
    rw [e, hr]
  have hd : (K.drop 1).length = K.length - 1 := by rw [List.length_drop]
  refine loop_ex (L := K.drop 1) (fun i st => st.1 = (i : Int) ∧ st.2.length = i ∧ ld n 2 [] (K.drop 1) = ld n ((i + 2 : Nat) : Int) st.2 ((K.drop 1).drop i)) (by omega) ⟨rfl, rfl, rfl⟩ ?_ ?_
  · rintro i ⟨j, acc⟩ k x hx hi ⟨q1, q4, q5⟩ hk
    dsimp only at q1 q4 q5
    subst q1
    have hlt := get_lt hx
    have hxm : x ∈ K := List.mem_of_mem_drop (get_mem hx)
    simp only [F_impl_LoadBlocks_l2, e1]
    rw [decide_eq_true (by omega), bif_t, ix_get hx, Option.bind_some, blockOf_eq x (hm x hxm), Option.bind_some]
    rw [drop_cons hx] at q5
    have ep : ((i + 2 : Nat) : Int) + 1 = ((i + 1 + 2 : Nat) : Int) := by omega
    have e2 : w64 ((i : Int) + 2) = ((i + 2 : Nat) : Int) := by rw [w64_id (by omega)]; omega
    have hgo : ld n 2 [] (K.drop 1) = ld n ((i + 1 + 2 : Nat) : Int) (acc ++ [(blkOf x).1]) ((K.drop 1).drop (i + 1)) → ∃ r, k (((i + 1 : Nat) : Int), acc ++ [(blkOf x).1]) = some r ∧ r = ld n 2 [] (K.drop 1) := fun h => hk _ ⟨rfl, by simp; omega, h⟩
    by_cases hc : (blkOf x).2 ≠ 0
    · rw [decide_eq_false hc, bif_f]
      unfold F_impl_LoadBlocks_j3
      rw [decide_eq_true hc, bif_t, e2]
      simp only [ld, if_pos hc] at q5
      exact ⟨_, rfl, q5.symm⟩
    · simp only [ld, if_neg hc] at q5
      have h0 : (blkOf x).2 = 0 := by simpa using hc
      rw [decide_eq_true h0, bif_t]
      have good : ld n 2 [] (K.drop 1) = ld n ((i + 1 + 2 : Nat) : Int) (acc ++ [(blkOf x).1]) ((K.drop 1).drop (i + 1)) → ∃ r, F_impl_LoadBlocks_j3 (blkOf x) (i : Int) acc k (blkOf x).2 = some r ∧ r = ld n 2 [] (K.drop 1) := by
        intro h
        unfold F_impl_LoadBlocks_j3
        rw [decide_eq_false hc, bif_f, need_true (room48 (by omega)), w64_succ hi]
        exact hgo h
      by_cases ha : 0 < i
      · obtain ⟨q, hq, hqi⟩ := last_ix (A := acc) (by omega)
        have ew : w64 ((i : Int) - 1) = ((acc.length - 1 : Nat) : Int) := by rw [w64_id (by omega)]; omega
        rw [hq] at q5
        dsimp only at q5
        rw [decide_eq_true (by omega), bif_t, ew, hqi, Option.bind_some, compareBlocks_eq, Option.bind_some, blkCmp_bef]
        cases hb : blkBef q (blkOf x).1
        · rw [hb] at q5
          rw [Bool.not_false, bif_t]
          unfold F_impl_LoadBlocks_j3
          rw [decide_eq_true (by decide), bif_t, e2]
          exact ⟨_, rfl, by rw [q5, if_neg (by simp)]⟩
        · rw [hb, if_pos rfl, ep] at q5
          rw [Bool.not_true, bif_f]
          exact good q5
      · have : i = 0 := by omega
        subst this
        have : acc = [] := List.eq_nil_of_length_eq_zero q4
        subst this
        rw [decide_eq_false (by simp), bif_f]
        simp only [List.getLast?_nil] at q5
        rw [ep] at q5
        exact good q5
  · rintro ⟨j, acc⟩ k ⟨q1, q4, q5⟩
    dsimp only at q1 q4 q5
    subst q1
    simp only [F_impl_LoadBlocks_l2, e1]
    rw [List.drop_length] at q5
    simp only [ld] at q5
    rw [decide_eq_false (by omega), bif_f]
    by_cases hn : (acc.length : Int) ≠ n
    · rw [if_pos hn] at q5
      rw [decide_eq_true hn, bif_t]
      exact ⟨_, rfl, q5.symm⟩
    · rw [if_neg hn] at q5
      rw [decide_eq_false hn, bif_f]
      exact ⟨_, rfl, q5.symm⟩
/-- An archive read. -/
def loadS (s : List UInt8) : List TBlock × Int × Int := if Go.Lib.hasSuffix s [10] = true then (match headN ((spl 10 (s.take (s.length - 1))).headD []) with
  | some n => ld n 2 [] ((spl 10 (s.take (s.length - 1))).drop 1)
  | none => ([], 1, 9)) else ([], 0, 11)
theorem suf_iff (s : List UInt8) : Go.Lib.hasSuffix s [10] = true ↔ ∃ t, s = t ++ [10] := by
  unfold Go.Lib.hasSuffix
  rw [List.isSuffixOf_iff_suffix]
  constructor
  · rintro ⟨t, h⟩; exact ⟨t, h.symm⟩
  · rintro ⟨t, h⟩; exact ⟨t, h.symm⟩
theorem spec_load (s : List UInt8) (hs : s.length ≤ 1048576) : F_spec_LoadBlocks s = some (loadS s) := by
  unfold F_spec_LoadBlocks F_spec_l29Lines loadS
  have hsp : F_spec_l01Split s 10 = some (spl 10 s) := Split_eq s 10 (by omega)
  rw [hsp, Option.bind_some]
  have hl := spl_len 10 s
  have hne := spl_ne 10 s
  have hpos : 0 < (spl 10 s).length := List.length_pos_iff.2 hne
  have e1 : w64 (((spl 10 s).length : Int) - 1) = (((spl 10 s).length - 1 : Nat) : Int) := by rw [w64_id (by omega)]; omega
  obtain ⟨z, hz⟩ := get_some (L := spl 10 s) (n := (spl 10 s).length - 1) (by omega)
  have e2 : sub (spl 10 s) 0 (((spl 10 s).length - 1 : Nat) : Int) = (spl 10 s).take ((spl 10 s).length - 1) := sub_nat _ 0 _
  rw [e1, need_true ⟨by omega, by omega, by omega⟩, ix_get hz, Option.bind_some, Option.bind_some, e2]
  dsimp only
  by_cases hsuf : Go.Lib.hasSuffix s [10] = true
  · obtain ⟨t, ht⟩ := (suf_iff s).1 hsuf
    have hend := spl_end 10 t
    have htk : s.take (s.length - 1) = t := by rw [ht]; simp
    have hm : ∀ x ∈ spl 10 t, x.length ≤ 2000000 := fun x hx => by
      have := (spl_sum 10 t x hx).1
      rw [ht, List.length_append] at hs
      omega
    have htl := spl_len 10 t
    have hs' : t.length ≤ 1048576 := by rw [ht, List.length_append] at hs; omega
    rw [if_pos hsuf, htk]
    rw [ht, hend] at hz ⊢
    have hK : ((spl 10 t ++ [[]]).take ((spl 10 t ++ [[]]).length - 1)) = spl 10 t := by simp
    have hzz : z = [] := by
      rw [List.length_append, List.length_singleton, Nat.add_sub_cancel, List.getElem?_append_right (Nat.le_refl _), Nat.sub_self] at hz
      simpa using hz.symm
    rw [hK, hzz, decide_eq_true rfl, Bool.not_true, bif_f]
    cases hL : spl 10 t with
    | nil => exact absurd hL (spl_ne 10 t)
    | cons l0 T =>
      rw [hL] at hm htl
      have hl0 := hm l0 (by simp)
      rw [decide_eq_false (by rw [List.length_cons]; omega), bif_f, ix_zero, Option.bind_some]
      obtain ⟨n, ok, h1, h2⟩ := head_spec l0 hl0
      rw [h1, Option.bind_some]
      have hhd : (l0 :: T).headD [] = l0 := rfl
      rw [hhd, h2]
      cases ok
      · rfl
      · rw [Bool.not_true, bif_f, if_pos rfl]
        exact load_spec (l0 :: T) true n true (by omega) hm (by simp)
  · rw [if_neg hsuf]
    rcases spl_last 10 s with h | rfl | ⟨y, hy, hyn⟩
    · exact absurd ((suf_iff s).2 h) hsuf
    · simp only [spl] at hz ⊢
      have hzz : z = [] := by simpa using hz.symm
      rw [hzz]
      rfl
    · rw [List.getLast?_eq_getElem?, hz] at hy
      simp only [Option.some.injEq] at hy
      rw [hy, decide_eq_false hyn]
      rfl
theorem impl_load (s : List UInt8) (hs : s.length ≤ 1048576) : F_impl_LoadBlocks s = some (loadS s) := by
  unfold F_impl_LoadBlocks loadS F_hasSuffix F_trimSuffix F_cutPrefix
  rw [need_true (by omega), Option.bind_some]
  by_cases hsuf : Go.Lib.hasSuffix s [10] = true
  · obtain ⟨t, ht⟩ := (suf_iff s).1 hsuf
    have htk : s.take (s.length - 1) = t := by rw [ht]; simp
    have htr : Go.Lib.trimSuffix s [10] = t := by unfold Go.Lib.trimSuffix; rw [if_pos hsuf]; exact htk
    have hs' : t.length ≤ 1048576 := by rw [ht, List.length_append] at hs; omega
    have hm : ∀ x ∈ spl 10 t, x.length ≤ 2000000 := fun x hx => by
      have := (spl_sum 10 t x hx).1
      omega
    have htl := spl_len 10 t
    rw [hsuf, if_pos rfl, htk, Bool.not_true, bif_f, need_true (by omega), Option.bind_some, htr, F_split_eq 10 (by omega), Option.bind_some]
    cases hL : spl 10 t with
    | nil => exact absurd hL (spl_ne 10 t)
    | cons l0 T =>
      rw [hL] at hm htl
      have hl0 := hm l0 (by simp)
      have hhd : (l0 :: T).headD [] = l0 := rfl
      rw [ix_zero, Option.bind_some, Option.bind_some, hhd]
      dsimp only
      have hrd : ∀ y : List UInt8, y.length ≤ 2000000 → F_readDec y = some (readDec y) := fun y hy => by unfold F_readDec; exact need_true (by omega)
      have hcl : (Go.Lib.trimPrefix l0 [97, 114, 99, 104, 105, 118, 101, 32]).length ≤ 2000000 := by
        unfold Go.Lib.trimPrefix
        split
        · rw [List.length_drop]; omega
        · exact hl0
      rw [hrd _ hcl, Option.bind_some]
      have hA : ARC ++ [32] = [97, 114, 99, 104, 105, 118, 101, 32] := rfl
      by_cases hp : Go.Lib.hasPrefix l0 [97, 114, 99, 104, 105, 118, 101, 32] = true
      · have ht8 : Go.Lib.trimPrefix l0 [97, 114, 99, 104, 105, 118, 101, 32] = l0.drop 8 := by unfold Go.Lib.trimPrefix; rw [if_pos hp]; rfl
        rw [hp, ht8, Bool.not_true, bif_f]
        unfold headN
        rw [hA]
        cases h2 : (readDec (l0.drop 8)).2
        · rw [Bool.not_false, bif_t, if_neg (by simp)]
        · rw [Bool.not_true, bif_f, within_eq, Option.bind_some]
          by_cases h3 : 0 ≤ (readDec (l0.drop 8)).1 ∧ (readDec (l0.drop 8)).1 ≤ 32
          · rw [if_pos ⟨hp, rfl, h3.1, h3.2⟩, decide_eq_true h3, Bool.not_true, bif_f, need_true ⟨by omega, by rw [List.length_cons]; omega, by omega⟩]
            exact load_impl (l0 :: T) (readDec (l0.drop 8)).1 (readDec (l0.drop 8)).2 (by omega) hm (by simp)
          · rw [if_neg (fun h => h3 ⟨h.2.2.1, h.2.2.2⟩), decide_eq_false h3]
            rfl
      · have hpf : Go.Lib.hasPrefix l0 [97, 114, 99, 104, 105, 118, 101, 32] = false := by simpa using hp
        rw [hpf, Bool.not_false, bif_t]
        unfold headN
        rw [hA, if_neg (fun h => hp h.1)]
  · have hf : Go.Lib.hasSuffix s [10] = false := by simpa using hsuf
    rw [hf, if_neg (by simp)]
    rfl
theorem ld_len (n : Int) : ∀ (L : List (List UInt8)) (pos : Int) (acc : List TBlock), (ld n pos acc L).1.length ≤ acc.length + L.length
  | [], pos, acc => by
    simp only [ld]
    split
    · simp
    · simp
  | l :: L, pos, acc => by
    have ih := ld_len n L (pos + 1) (acc ++ [(blkOf l).1])
    rw [List.length_append, List.length_singleton] at ih
    simp only [ld]
    split
    · simp
    · split
      · split
        · rw [List.length_cons]; omega
        · simp
      · rw [List.length_cons]; omega
theorem core_LoadBlocks (a0 : List UInt8) (o0 : OkS a0) (s0 : SmS a0) : ∃ w, F_spec_LoadBlocks a0 = some w ∧ F_impl_LoadBlocks a0 = some w ∧ (SmL CtBlock) w.1 := by
  have hs : a0.length ≤ 1048576 := by have : (a0.length : Int) ≤ 1048576 := s0; omega
  refine ⟨_, spec_load a0 hs, impl_load a0 hs, ?_, fun _ _ => ⟨trivial, trivial, trivial⟩⟩
  have key : (loadS a0).1.length ≤ 1048576 := by
    unfold loadS
    split
    · split
      · rename_i n _
        have h1 := ld_len n ((spl 10 (a0.take (a0.length - 1))).drop 1) 2 []
        have h2 := spl_len 10 (a0.take (a0.length - 1))
        rw [List.length_take] at h2
        rw [List.length_drop, List.length_nil] at h1
        omega
      · simp
    · simp
  omega
end Go.Ab
