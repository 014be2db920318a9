/- Own texts, merged: PSpl PSpT PDig PNum PNumS PRd PRt PPat. -/
import Derived.Test.YthcojmhjnbebdaaDoorPL
import Derived.Test.YthcojmhjnbebdaaDoorGT
import Derived.Lib.SplitLaws
import Derived.Test.YthcojmhjnbebdaaDoorPS
import Derived.Lib.ItoaNum
/- Texts divided at a byte (own text). -/
set_option linter.unusedVariables false
set_option linter.unusedSimpArgs false
namespace Go.Ab
open Go.RowKit

/-- What stands ahead of the first piece. -/
def ahead (p : List UInt8) : List (List UInt8) → List (List UInt8)
  | h :: t => (p ++ h) :: t
  | [] => [p]
def spl (c : UInt8) : List UInt8 → List (List UInt8)
  | [] => [[]]
  | x :: s => if x = c then [] :: spl c s else ahead [x] (spl c s)
def splN (c : UInt8) : Nat → List UInt8 → List (List UInt8)
  | 0, s => [s]
  | _ + 1, [] => [[]]
  | k + 1, x :: s => if x = c then [] :: splN c k s else ahead [x] (splN c (k + 1) s)
theorem ahead_ahead (p q : List UInt8) (l : List (List UInt8)) : ahead p (ahead q l) = ahead (p ++ q) l := by
  cases l <;> simp [ahead]
theorem ahead_nil {l : List (List UInt8)} (h : l ≠ []) : ahead [] l = l := by
  cases l with
  | nil => exact absurd rfl h
  | cons => rfl
theorem ahead_ne (p : List UInt8) (l : List (List UInt8)) : ahead p l ≠ [] := by cases l <;> simp [ahead]
theorem spl_ne (c : UInt8) (s : List UInt8) : spl c s ≠ [] := by
  cases s with
  | nil => simp [spl]
  | cons x s =>
    simp only [spl]
    split
    · simp
    · exact ahead_ne _ _
theorem spl_len (c : UInt8) (s : List UInt8) : (spl c s).length ≤ s.length + 1 := by
  induction s with
  | nil => simp [spl]
  | cons x s ih =>
    simp only [spl]
    split
    · simp; exact ih
    · have : (ahead [x] (spl c s)).length = (spl c s).length := by
        cases h : spl c s with
        | nil => exact absurd h (spl_ne c s)
        | cons => rfl
      rw [this, List.length_cons]; omega
theorem spl_nil {c : UInt8} {p : List UInt8} : ahead p (spl c []) = [p] := by simp [spl, ahead]
theorem spl_hit {c : UInt8} {p s : List UInt8} : ahead p (spl c (c :: s)) = p :: spl c s := by simp [spl, ahead]
theorem spl_miss {c x : UInt8} {p s : List UInt8} (h : x ≠ c) : ahead p (spl c (x :: s)) = ahead (p ++ [x]) (spl c s) := by
  simp only [spl, h, if_false]
  exact ahead_ahead _ _ _
/-- The pieces hold no byte of the kind, and are no longer than the whole. -/
theorem ahead_mem {p : List UInt8} {l : List (List UInt8)} {Q : List UInt8 → Prop} (h1 : ∀ h t, l = h :: t → Q (p ++ h)) (h0 : l = [] → Q p) (h2 : ∀ x ∈ l, Q x) : ∀ x ∈ ahead p l, Q x := by
  cases l with
  | nil => intro x hx; rw [List.mem_singleton.1 hx]; exact h0 rfl
  | cons h t =>
    intro x hx
    rcases List.mem_cons.1 hx with rfl | hx
    · exact h1 h t rfl
    · exact h2 x (by simp [hx])
theorem spl_sum (c : UInt8) (s : List UInt8) : ∀ x ∈ spl c s, x.length ≤ s.length ∧ c ∉ x := by
  induction s with
  | nil => simp [spl]
  | cons y s ih =>
    simp only [spl]
    split
    · intro x hx
      rcases List.mem_cons.1 hx with rfl | hx
      · simp
      · obtain ⟨h1, h2⟩ := ih x hx
        exact ⟨by simp only [List.length_cons]; omega, h2⟩
    · rename_i hne
      refine ahead_mem ?_ (fun h => absurd h (spl_ne c s)) ?_
      · intro h t e
        obtain ⟨h1, h2⟩ := ih h (by rw [e]; simp)
        refine ⟨by simp only [List.length_append, List.length_cons, List.length_nil]; omega, ?_⟩
        simp only [List.singleton_append, List.mem_cons, not_or]
        exact ⟨fun e => hne e.symm, h2⟩
      · intro x hx
        obtain ⟨h1, h2⟩ := ih x hx
        exact ⟨by simp only [List.length_cons]; omega, h2⟩

theorem index_one (c x : UInt8) (s : List UInt8) : Go.Lib.index (x :: s) [c] = if x = c then 0 else if Go.Lib.index s [c] = -1 then -1 else Go.Lib.index s [c] + 1 := by
  simp only [Go.Lib.index, List.isPrefixOf, Bool.and_true, beq_iff_eq]
  by_cases h : x = c
  · subst h; simp
  · simp [h, show ¬ c = x from fun e => h e.symm]
theorem splitK_eq (c : UInt8) : ∀ (s : List UInt8) (k : Nat), Go.Lib.splitK [c] 0 k s = splN c k s
  | s, 0 => by simp [Go.Lib.splitK, splN]
  | [], k + 1 => by simp [Go.Lib.splitK, splN, Go.Lib.index]
  | x :: s, k + 1 => by
    have ih := splitK_eq c s (k + 1)
    have ih0 := splitK_eq c s k
    have hge := Go.Lib.index_ge s [c]
    simp only [Go.Lib.splitK, splN, index_one, beq_iff_eq] at ih ⊢
    by_cases h : x = c
    · simp [h, ih0]
    · simp only [h, if_false]
      by_cases h2 : Go.Lib.index s [c] = -1
      · simp only [h2, if_true] at ih ⊢
        rw [← ih]; simp [ahead]
      · simp only [h2, if_false] at ih ⊢
        rw [← ih]
        have e1 : ¬ (Go.Lib.index s [c] + 1 = -1) := by omega
        have e2 : (Go.Lib.index s [c] + 1).toNat = (Go.Lib.index s [c]).toNat + 1 := by omega
        rw [if_neg e1, e2]
        simp [ahead, Nat.add_right_comm]
theorem splN_all (c : UInt8) : ∀ (s : List UInt8) (k : Nat), s.count c ≤ k → splN c k s = spl c s
  | [], 0, _ => rfl
  | [], k + 1, _ => rfl
  | x :: s, 0, h => by
    have hx : x ≠ c := by rintro rfl; simp at h
    have hs : s.count c ≤ 0 := by rw [List.count_cons_of_ne hx] at h; exact h
    have ih := splN_all c s 0 hs
    simp only [splN, spl, hx, if_false] at ih ⊢
    rw [← ih]; simp [ahead]
  | x :: s, k + 1, h => by
    simp only [splN, spl]
    by_cases hx : x = c
    · subst hx
      rw [List.count_cons_self] at h
      simp only [if_true]
      rw [splN_all x s k (by omega)]
    · rw [List.count_cons_of_ne hx] at h
      simp only [hx, if_false]
      rw [splN_all c s (k + 1) h]
theorem F_split_eq {s : List UInt8} (c : UInt8) (h : s.length < 4294967281) : F_split s [c] = some (spl c s) := by
  unfold F_split
  rw [need_true ⟨h, by simp⟩, Go.Lib.splitB_data, bz_data, bz_data, splitK_eq]
  congr 1
  refine splN_all c s _ ?_
  have : Go.Lib.countB (bz s) (bz [c]) = Go.Lib.count s [c] := by unfold Go.Lib.countB; rw [bz_data, bz_data]
  rw [this, Go.Lib.count_one]
  exact Nat.le_refl _
theorem F_splitN_eq {s : List UInt8} (c : UInt8) {n : Nat} (h : s.length < 4294967281) (h1 : 1 ≤ n) (h2 : n ≤ 9223372036854775807) : F_splitN s [c] (n : Int) = some (splN c (min n (s.length + 1) - 1) s) := by
  unfold F_splitN
  rw [need_true ⟨h, by simp, by omega, by omega⟩, Go.Lib.splitB_data, bz_data, bz_data, splitK_eq]
  rfl
/-- At the first byte of a kind. -/
def cutA (c : UInt8) (s : List UInt8) : List UInt8 × List UInt8 × Bool := (s.takeWhile (fun x => !decide (x = c)), (s.dropWhile (fun x => !decide (x = c))).tail, decide (c ∈ s))
theorem cut_eq (c : UInt8) : ∀ s : List UInt8, Go.Lib.cut s [c] = cutA c s
  | [] => by simp [Go.Lib.cut, cutA, Go.Lib.index]
  | x :: s => by
    have ih := cut_eq c s
    have hge := Go.Lib.index_ge s [c]
    simp only [Go.Lib.cut, cutA, index_one] at ih ⊢
    by_cases h : x = c
    · subst h; simp
    · have hcx : c ≠ x := fun e => h e.symm
      simp only [h, if_false] at ih ⊢
      by_cases h2 : Go.Lib.index s [c] = -1
      · simp only [h2, if_true] at ih ⊢
        simp only [show ¬ ((0 : Int) ≤ -1) by decide, if_false, Prod.mk.injEq] at ih ⊢
        obtain ⟨i1, i2, i3⟩ := ih
        have i3' : c ∉ s := by simpa using i3.symm
        simp only [List.takeWhile_cons, List.dropWhile_cons, h, ← i1, ← i2, decide_false, Bool.not_false, if_true, true_and]
        simp [hcx, i3']
      · have e1 : (0 : Int) ≤ Go.Lib.index s [c] + 1 := by omega
        have e0 : (0 : Int) ≤ Go.Lib.index s [c] := by omega
        have e2 : (Go.Lib.index s [c] + 1).toNat = (Go.Lib.index s [c]).toNat + 1 := by omega
        simp only [h2, if_false, e1, e2, e0, if_true, Prod.mk.injEq] at ih ⊢
        obtain ⟨i1, i2, i3⟩ := ih
        have i3' : c ∈ s := by simpa using i3.symm
        simp only [List.takeWhile_cons, List.dropWhile_cons, h, ← i1, ← i2, decide_false, Bool.not_false, if_true]
        simp [hcx, i3', Nat.add_right_comm]
theorem F_cut_eq {s : List UInt8} (c : UInt8) (h : s.length < 4294967281) : F_cut s [c] = some (cutA c s) := by
  unfold F_cut
  rw [need_true h, cut_eq]
end Go.Ab
/- The reference's Split (own text). -/
set_option linter.unusedVariables false
set_option linter.unusedSimpArgs false
namespace Go.Ab
open Go.RowKit
theorem sub_nat {α : Type} (L : List α) (a b : Nat) : sub L (a : Int) (b : Int) = (L.take b).drop a := by simp [sub]
theorem sub_step {α : Type} {L : List α} {a i : Nat} {x : α} (h : L[i]? = some x) (ha : a ≤ i) : (L.take (i + 1)).drop a = (L.take i).drop a ++ [x] := by
  rw [take_succ h, List.drop_append_of_le_length (by have := get_lt h; rw [List.length_take]; omega)]
theorem Split_eq (s : List UInt8) (c : UInt8) (hs : s.length ≤ 2000000) : F_spec_l01Split s (c.toNat : Int) = some (spl c s) := by
  unfold F_spec_l01Split
  suffices H : ∃ r, loop (F_spec_l01Split_l0 s (c.toNat : Int)) (0, 0, []) = some r ∧ r = spl c s by
    obtain ⟨r, e, hr⟩ := H
    rw [e, hr]
  refine loop_ex (L := s) (fun i st => ∃ a : Nat, st.1 = (a : Int) ∧ st.2.1 = (i : Int) ∧ a ≤ i ∧ st.2.2.length ≤ i ∧ spl c s = st.2.2 ++ ahead ((s.take i).drop a) (spl c (s.drop i))) (by omega)
    ⟨0, rfl, rfl, Nat.le_refl _, Nat.le_refl _, by simp [ahead_nil (spl_ne c s)]⟩ ?_ ?_
  · rintro i ⟨x1, x2, acc⟩ k x hx hi ⟨a, h1, h2, h3, h4, h5⟩ hk
    dsimp only at h1 h2 h4 h5
    subst h1 h2
    have hl := get_lt hx
    simp only [F_spec_l01Split_l0, int_lt hl, ix_get hx, Option.bind_some, bif_t, w64_succ hi, List.length_singleton]
    rw [drop_cons hx] at h5
    by_cases hc : x = c
    · subst hc
      rw [decide_eq_true rfl, bif_t, need_true ⟨by omega, by omega, by omega⟩, need_true (p := room _ _) (show room (acc.length + 1) 16 from ⟨by omega, by omega⟩)]
      rw [spl_hit] at h5
      refine hk _ ⟨i + 1, rfl, rfl, Nat.le_refl _, ?_, ?_⟩
      · simp; omega
      · dsimp only
        rw [h5, sub_nat, show (List.take (i + 1) s).drop (i + 1) = [] from List.drop_eq_nil_of_le (by rw [List.length_take]; omega), ahead_nil (spl_ne _ _)]
        simp
    · have : ¬ ((x.toNat : Int) = (c.toNat : Int)) := fun e => hc (UInt8.toNat_inj.1 (by omega))
      rw [decide_eq_false this, bif_f]
      refine hk _ ⟨a, rfl, rfl, by omega, by dsimp only; omega, ?_⟩
      dsimp only
      rw [spl_miss hc] at h5
      rw [h5, sub_step hx h3]
  · rintro ⟨x1, x2, acc⟩ k ⟨a, h1, h2, h3, h4, h5⟩
    dsimp only at h1 h2 h4 h5
    subst h1 h2
    simp only [F_spec_l01Split_l0, int_lt_self, bif_f, List.length_singleton]
    rw [need_true ⟨by omega, by omega, by omega⟩, need_true (p := room _ _) (show room (acc.length + 1) 16 from ⟨by omega, by omega⟩)]
    refine ⟨_, rfl, ?_⟩
    rw [h5, List.drop_length, spl_nil, sub_nat]
end Go.Ab
/- Digits (own text). -/
set_option linter.unusedVariables false
set_option linter.unusedSimpArgs false
namespace Go.Ab
open Go.RowKit
open Go.Lib (itoa decDigits)
theorem dig_len : ∀ (k u : Nat), u < 10 ^ (k + 1) → (decDigits u).length ≤ k + 1
  | 0, u, h => by rw [decDigits, dif_pos (by simpa using h)]; simp
  | k + 1, u, h => by
    rw [decDigits]
    split
    · simp
    · have := dig_len k (u / 10) (by rw [Nat.pow_succ] at h; omega)
      rw [List.length_append, List.length_singleton]; omega
/-- The digits, none for 0. -/
def dg0 (u : Nat) : List UInt8 := if u = 0 then [] else decDigits u
theorem dg0_step {u : Nat} (h : u ≠ 0) : dg0 u = dg0 (u / 10) ++ [UInt8.ofNat (48 + u % 10)] := by
  unfold dg0
  rw [if_neg h, decDigits]
  by_cases h1 : u < 10
  · rw [dif_pos h1, if_pos (by omega), Nat.mod_eq_of_lt h1]; rfl
  · rw [dif_neg h1, if_neg (by omega)]
end Go.Ab
/- Numerals read back (own text). -/
set_option linter.unusedVariables false
set_option linter.unusedSimpArgs false
namespace Go.Ab
open Go.RowKit
open Go.Lib (itoa decDigits)
def dgt (c : UInt8) : Bool := decide (48 ≤ c.toNat ∧ c.toNat ≤ 57)
def val1 (a : Nat) (c : UInt8) : Nat := a * 10 + (c.toNat - 48)
def val (d : List UInt8) : Nat := d.foldl val1 0
theorem val_snoc (d : List UInt8) (c : UInt8) : val (d ++ [c]) = val d * 10 + (c.toNat - 48) := by unfold val; rw [List.foldl_append]; rfl
theorem byte_at {k : Nat} (h : k < 10) : (UInt8.ofNat (48 + k)).toNat = 48 + k := by
  rw [UInt8.toNat_ofNat']; omega
theorem head_app {a b : List UInt8} (h : a ≠ []) : (a ++ b).head? = a.head? := by
  cases a with
  | nil => exact absurd rfl h
  | cons => rfl
theorem dig_val (u : Nat) : val (decDigits u) = u ∧ (decDigits u).all dgt = true ∧ decDigits u ≠ [] ∧ (u ≠ 0 → (decDigits u).head? ≠ some 48) := by
  induction u using Nat.strongRecOn with
  | _ u ih =>
    rw [decDigits]
    by_cases h : u < 10
    · rw [dif_pos h]
      have hb := byte_at h
      refine ⟨?_, ?_, by simp, ?_⟩
      · show 0 * 10 + ((UInt8.ofNat (48 + u)).toNat - 48) = u; omega
      · simp only [List.all_cons, List.all_nil, Bool.and_true, dgt]; exact decide_eq_true (by omega)
      · intro hu e
        simp only [List.head?_cons, Option.some.injEq] at e
        rw [e] at hb
        have : (48 : UInt8).toNat = 48 := rfl
        omega
    · rw [dif_neg h]
      obtain ⟨h1, h2, h3, h4⟩ := ih (u / 10) (by omega)
      have hb := byte_at (k := u % 10) (by omega)
      refine ⟨?_, ?_, by simp, ?_⟩
      · rw [val_snoc, h1, hb]; omega
      · rw [List.all_append, h2, Bool.true_and]
        simp only [List.all_cons, List.all_nil, Bool.and_true, dgt]; exact decide_eq_true (by omega)
      · intro _
        rw [head_app h3]
        exact h4 (by omega)
theorem val_pos {c : UInt8} {d : List UInt8} (hc : dgt c = true) (h0 : c ≠ 48) : 1 ≤ val (c :: d) := by
  have hk : ∀ (d : List UInt8) (a : Nat), 1 ≤ a → 1 ≤ d.foldl val1 a := by
    intro d
    induction d with
    | nil => intro a h; exact h
    | cons x d ih => intro a h; exact ih _ (by unfold val1; omega)
  refine hk d _ ?_
  unfold val1
  have h1 := of_decide_eq_true hc
  have : c.toNat ≠ 48 := fun e => h0 (UInt8.toNat_inj.1 e)
  omega
theorem val_dig : ∀ (n : Nat) (d : List UInt8), d.length = n → d.all dgt = true → d ≠ [] → (d.head? = some 48 → d.length = 1) → decDigits (val d) = d
  | 0, d, hn, _, h0, _ => absurd (List.eq_nil_of_length_eq_zero hn) h0
  | n + 1, d, hn, ha, h0, h48 => by
    obtain ⟨d', c, rfl⟩ : ∃ d' c, d = d' ++ [c] := ⟨d.dropLast, d.getLast h0, (List.dropLast_concat_getLast h0).symm⟩
    rw [List.all_append, Bool.and_eq_true] at ha
    have hc : dgt c = true := by simpa using ha.2
    have hc' := of_decide_eq_true hc
    have hcb : UInt8.ofNat (48 + (c.toNat - 48)) = c := by
      apply UInt8.toNat_inj.1
      rw [byte_at (by omega)]; omega
    rw [val_snoc, decDigits]
    by_cases hd : d' = []
    · subst hd
      have : val [] = 0 := rfl
      rw [this, dif_pos (by omega)]
      simp only [Nat.zero_mul, Nat.zero_add, hcb, List.nil_append]
    · have hl : d'.length = n := by rw [List.length_append, List.length_singleton] at hn; omega
      have hd1 : 1 ≤ d'.length := List.length_pos_iff.2 hd
      have hh : d'.head? ≠ some 48 := by
        intro e
        have := h48 (by rw [head_app hd]; exact e)
        rw [List.length_append, List.length_singleton] at this
        omega
      have ih := val_dig n d' hl ha.1 hd (fun e => absurd e hh)
      have hpos : 1 ≤ val d' := by
        cases d' with
        | nil => exact absurd rfl hd
        | cons x t =>
          have hx : dgt x = true := by have := ha.1; rw [List.all_cons, Bool.and_eq_true] at this; exact this.1
          exact val_pos hx (fun e => hh (by rw [e]; rfl))
      rw [dif_neg (by omega), show (val d' * 10 + (c.toNat - 48)) / 10 = val d' by omega, ih, show (val d' * 10 + (c.toNat - 48)) % 10 = c.toNat - 48 by omega, hcb]
theorem val_lt (d : List UInt8) : d.all dgt = true → ∀ a : Nat, d.foldl val1 a < (a + 1) * 10 ^ d.length := by
  induction d with
  | nil => intro _ a; simp
  | cons c d ih =>
    intro ha a
    rw [List.all_cons, Bool.and_eq_true] at ha
    have hc := of_decide_eq_true ha.1
    have h1 := ih ha.2 (val1 a c)
    have h2 : (val1 a c + 1) * 10 ^ d.length ≤ (a + 1) * 10 * 10 ^ d.length := Nat.mul_le_mul_right _ (by unfold val1; omega)
    rw [List.length_cons, Nat.pow_succ, Nat.mul_comm (10 ^ d.length) 10, ← Nat.mul_assoc]
    exact Nat.lt_of_lt_of_le h1 h2
theorem parse_dig (M : Nat) (hM : 10 ^ 18 ≤ M) : ∀ (d : List UInt8) (a : Nat), d.all dgt = true → (a + 1) * 10 ^ d.length ≤ 10 ^ 18 → Go.Lib.parseUintM M a d = .ok (d.foldl val1 a)
  | [], a, _, _ => rfl
  | c :: d, a, ha, hb => by
    rw [List.all_cons, Bool.and_eq_true] at ha
    have hc := of_decide_eq_true ha.1
    have hpow : 1 ≤ 10 ^ d.length := Nat.one_le_pow _ _ (by decide)
    rw [List.length_cons, Nat.pow_succ, Nat.mul_comm (10 ^ d.length) 10, ← Nat.mul_assoc] at hb
    have hb1 : (a + 1) * 10 * 1 ≤ (a + 1) * 10 * 10 ^ d.length := Nat.mul_le_mul_left _ hpow
    have h2 : (val1 a c + 1) * 10 ^ d.length ≤ (a + 1) * 10 * 10 ^ d.length := Nat.mul_le_mul_right _ (by unfold val1; omega)
    rw [Go.Lib.parseUintM, if_pos hc, if_neg (by omega), if_neg (by omega)]
    exact parse_dig M hM d (val1 a c) ha.2 (Nat.le_trans h2 hb)
/-- The number that a text is the numeral of. -/
def isNum (s : List UInt8) (v : Int) : Prop := s = itoa v ∧ (decDigits v.natAbs).length ≤ 18
theorem itoa_abs (v : Int) : itoa v = if v < 0 then 45 :: decDigits v.natAbs else decDigits v.natAbs := by
  unfold itoa
  split
  · rfl
  · rw [show v.toNat = v.natAbs by omega]
theorem dig_head (u : Nat) : ∃ c t, decDigits u = c :: t ∧ dgt c = true := by
  obtain ⟨_, h2, h3, _⟩ := dig_val u
  cases h : decDigits u with
  | nil => exact absurd h h3
  | cons c t =>
    rw [h, List.all_cons, Bool.and_eq_true] at h2
    exact ⟨c, t, rfl, h2.1⟩
theorem num_small {v : Int} (h : (decDigits v.natAbs).length ≤ 18) : v.natAbs < 10 ^ 18 := by
  obtain ⟨h1, h2, _, _⟩ := dig_val v.natAbs
  have := val_lt (decDigits v.natAbs) h2 0
  have e : (decDigits v.natAbs).foldl val1 0 = v.natAbs := h1
  rw [e, Nat.zero_add, Nat.one_mul] at this
  exact Nat.lt_of_lt_of_le this (Nat.pow_le_pow_right (by decide) h)
theorem num_inj {v v' : Int} (h : itoa v = itoa v') : v = v' := by
  rw [itoa_abs, itoa_abs] at h
  have key : ∀ u u' : Nat, decDigits u = decDigits u' → u = u' := fun u u' e => by rw [← (dig_val u).1, ← (dig_val u').1, e]
  have no : ∀ u u' : Nat, ¬ 45 :: decDigits u = decDigits u' := by
    intro u u' e
    obtain ⟨c, t, e2, hc⟩ := dig_head u'
    rw [e2] at e
    simp only [List.cons.injEq] at e
    rw [← e.1] at hc
    exact absurd hc (by decide)
  split at h <;> split at h
  · have := key _ _ (List.cons.inj h).2; omega
  · exact absurd h (no _ _)
  · exact absurd h.symm (no _ _)
  · have := key _ _ h; omega
theorem trim_itoa (v : Int) : Go.Lib.trimPrefix (itoa v) [45] = decDigits v.natAbs := by
  rw [itoa_abs]
  unfold Go.Lib.trimPrefix Go.Lib.hasPrefix
  split
  · simp
  · obtain ⟨c, t, e, hc⟩ := dig_head v.natAbs
    rw [e]
    have : c ≠ 45 := fun e => by rw [e] at hc; exact absurd hc (by decide)
    simp [List.isPrefixOf, this, Ne.symm this]
theorem parse_itoa {v : Int} (h : (decDigits v.natAbs).length ≤ 18) : Go.Lib.parseIntB 64 (itoa v) = .ok v := by
  obtain ⟨h1, h2, h3, _⟩ := dig_val v.natAbs
  have hs := num_small h
  obtain ⟨c, t, e, hc⟩ := dig_head v.natAbs
  have hc' := of_decide_eq_true hc
  have hp : Go.Lib.parseUintB 64 (decDigits v.natAbs) = .ok v.natAbs := by
    unfold Go.Lib.parseUintB
    rw [if_neg h3, parse_dig _ (by decide) _ 0 h2 (by rw [Nat.zero_add, Nat.one_mul]; exact Nat.pow_le_pow_right (by decide) h)]
    exact congrArg _ h1
  rw [itoa_abs]
  split
  · rename_i hv
    unfold Go.Lib.parseIntB
    dsimp only
    have e45 : (45 : UInt8).toNat = 45 := rfl
    rw [if_pos (Or.inr e45), hp]
    dsimp only
    rw [if_neg (by simp [e45]), if_neg (by rintro ⟨_, h⟩; omega), if_pos e45]
    congr 1; omega
  · rename_i hv
    unfold Go.Lib.parseIntB
    rw [e]
    dsimp only
    rw [e] at hp
    rw [if_neg (by omega), hp]
    dsimp only
    have : ¬ c.toNat = 45 := by omega
    rw [if_neg (by rintro ⟨_, h⟩; omega), if_neg (by rintro ⟨h, _⟩; exact this h), if_neg this]
    congr 1; omega
theorem readDec_num {s : List UInt8} {v : Int} (h : isNum s v) : readDec s = (v, true) := by
  obtain ⟨rfl, h⟩ := h
  unfold readDec
  rw [parse_itoa h]
  dsimp only
  rw [trim_itoa, if_neg (by simp; omega)]
theorem readDec_no {s : List UInt8} (h : ∀ v, ¬ isNum s v) : readDec s = (0, false) := by
  unfold readDec
  split
  · rename_i v hv
    split
    · rfl
    · rename_i hn
      simp only [not_or, Decidable.not_not, Nat.not_lt] at hn
      obtain ⟨h1, h2⟩ := hn
      refine absurd ⟨h2.symm, ?_⟩ (h v)
      rw [← h2, trim_itoa] at h1
      exact h1
  · rfl
end Go.Ab
/- The reference's numerals read back (own text). -/
set_option linter.unusedVariables false
set_option linter.unusedSimpArgs false
namespace Go.Ab
open Go.RowKit
open Go.Lib (itoa decDigits)
theorem u8_sub {c : UInt8} (h : dgt c = true) : w64 (IntKind.wrap .u8 ((c.toNat : Int) - 48)) = ((c.toNat - 48 : Nat) : Int) := by
  have hc := of_decide_eq_true h
  have e1 : IntKind.wrap .u8 ((c.toNat : Int) - 48) = ((c.toNat - 48 : Nat) : Int) := by
    simp only [IntKind.wrap, IntKind.signed, IntKind.bits]
    have : (((c.toNat : Int) - 48) % 2 ^ 8) = (c.toNat : Int) - 48 := Int.emod_eq_of_lt (by omega) (by omega)
    simp [this]
    try omega
  rw [e1, w64_id (by omega)]
theorem digit_eq (c : UInt8) : F_spec_l01Digit (c.toNat : Int) = some (dgt c) := by
  unfold F_spec_l01Digit dgt
  by_cases h : 48 ≤ c.toNat
  · rw [decide_eq_true (by omega), bif_t]
    congr 1
    by_cases h2 : c.toNat ≤ 57
    · rw [decide_eq_true (by omega), decide_eq_true (by omega)]
    · rw [decide_eq_false (by omega), decide_eq_false (by omega)]
  · rw [decide_eq_false (by omega), bif_f, decide_eq_false (by omega)]
theorem num_loop (s : List UInt8) (a : Nat) (ha : a ≤ 1) (hle : a ≤ s.length) (h18 : s.length - a ≤ 18) : F_spec_l01Number_j1 s (a : Int) = some (if (s.drop a).all dgt = true then (if a = 1 then -(val (s.drop a) : Int) else (val (s.drop a) : Int), true) else (0, false)) := by
  unfold F_spec_l01Number_j1
  suffices H : ∃ r, loop (F_spec_l01Number_l2 s (a : Int)) (0, (a : Int)) = some r ∧ r = (if (s.drop a).all dgt = true then (if a = 1 then -(val (s.drop a) : Int) else (val (s.drop a) : Int), true) else (0, false)) by
    obtain ⟨r, e, hr⟩ := H
    rw [e, hr]
  refine loop_mu (fun st => ∃ i : Nat, st.2 = (i : Int) ∧ a ≤ i ∧ i ≤ s.length ∧ st.1 = (val ((s.take i).drop a) : Int) ∧ ((s.take i).drop a).all dgt = true) (fun st => ((s.length : Int) - st.2).toNat) ⟨a, rfl, Nat.le_refl _, hle, ?_, ?_⟩ (by show ((s.length : Int) - (a : Int)).toNat < lim; unfold lim; omega) ?_
  · rw [List.drop_eq_nil_of_le (by rw [List.length_take]; omega)]; rfl
  · rw [List.drop_eq_nil_of_le (by rw [List.length_take]; omega)]; rfl
  · rintro ⟨n, j⟩ k ⟨i, h1, h2, h3, h4, h5⟩ hk
    dsimp only at h1 h4 hk
    subst h1 h4
    simp only [F_spec_l01Number_l2]
    by_cases hi : i < s.length
    · obtain ⟨c, hc⟩ := get_some hi
      have hst := sub_step hc h2
      rw [decide_eq_true (by omega), bif_t, ix_get hc, Option.bind_some, digit_eq, Option.bind_some]
      cases hd : dgt c
      · rw [Bool.not_false, bif_t]
        refine ⟨_, rfl, ?_⟩
        have hm : c ∈ s.drop a := by
          rw [List.mem_iff_getElem?]
          exact ⟨i - a, by rw [List.getElem?_drop, show a + (i - a) = i by omega]; exact hc⟩
        rw [if_neg]
        intro hall
        rw [List.all_eq_true] at hall
        rw [hall c hm] at hd
        cases hd
      · rw [Bool.not_true, bif_f, Option.bind_some, u8_sub hd]
        have hl := val_lt _ h5 0
        rw [Nat.zero_add, Nat.one_mul] at hl
        have hl2 : 10 ^ ((s.take i).drop a).length ≤ 10 ^ 17 := Nat.pow_le_pow_right (by decide) (by rw [List.length_drop, List.length_take]; omega)
        have hv : val ((s.take i).drop a) < 10 ^ 17 := Nat.lt_of_lt_of_le hl hl2
        have hcb : c.toNat < 256 := UInt8.toNat_lt c
        have e1 : w64 (10 * (val ((s.take i).drop a) : Int)) = 10 * (val ((s.take i).drop a) : Int) := w64_id (by omega)
        rw [e1, w64_id (by omega), w64_succ (by omega)]
        refine hk _ ⟨i + 1, rfl, by omega, by omega, ?_, ?_⟩ (by dsimp only; omega)
        · dsimp only
          rw [hst, val_snoc]; omega
        · rw [hst, List.all_append, h5]; simp [hd]
    · have : i = s.length := by omega
      subst this
      rw [take_all (Nat.le_refl _)] at h5 ⊢
      rw [decide_eq_false (by omega), bif_f, if_pos h5]
      have hl := val_lt _ h5 0
      rw [Nat.zero_add, Nat.one_mul] at hl
      have hl2 : 10 ^ (s.drop a).length ≤ 10 ^ 18 := Nat.pow_le_pow_right (by decide) (by rw [List.length_drop]; omega)
      have hv : val (s.drop a) < 10 ^ 18 := Nat.lt_of_lt_of_le hl hl2
      by_cases h1 : a = 1
      · subst h1
        rw [show decide (((1 : Nat) : Int) = (1 : Int)) = true from rfl, bif_t, w64_id (by omega), if_pos rfl]
        exact ⟨_, rfl, by simp⟩
      · rw [decide_eq_false (by omega), bif_f, if_neg h1]
        exact ⟨_, rfl, rfl⟩
/-- What a text reads as, its sign taken off. -/
def numAt (s : List UInt8) (a : Nat) : Int × Bool := if s.drop a = [] ∨ 18 < (s.drop a).length ∨ ((s.drop a).head? = some 48 ∧ 1 < s.length) ∨ ¬ (s.drop a).all dgt = true then (0, false) else (if a = 1 then -(val (s.drop a) : Int) else (val (s.drop a) : Int), true)
theorem j0_eq (s : List UInt8) (a : Nat) (ha : a ≤ 1) (hle : a ≤ s.length) (hs : s.length ≤ 9223372036854775806) : F_spec_l01Number_j0 s (a : Int) = some (numAt s a) := by
  unfold F_spec_l01Number_j0 numAt
  by_cases h0 : s.length = a
  · rw [decide_eq_true (by omega), bif_t, if_pos (Or.inl (List.drop_eq_nil_of_le (by omega)))]
  have hne : s.drop a ≠ [] := by intro e; have := congrArg List.length e; rw [List.length_drop] at this; simp at this; omega
  rw [decide_eq_false (by omega), bif_f, w64_id (by omega)]
  by_cases h18 : 18 < s.length - a
  · rw [decide_eq_true (by omega), bif_t, if_pos (Or.inr (Or.inl (by rw [List.length_drop]; omega)))]
  rw [decide_eq_false (by omega), bif_f]
  obtain ⟨x, hx⟩ := get_some (L := s) (n := a) (by omega)
  have hh : (s.drop a).head? = some x := by rw [drop_cons hx]; rfl
  rw [ix_get hx, Option.bind_some, num_loop s a ha hle (by omega)]
  have b48 : ((x.toNat : Int) = 48) ↔ x = 48 := by
    constructor
    · intro h; exact UInt8.toNat_inj.1 (by show x.toNat = 48; omega)
    · rintro rfl; rfl
  have fin : ∀ hn : ¬ ((s.drop a).head? = some 48 ∧ 1 < s.length), some (if (s.drop a).all dgt = true then (if a = 1 then -(val (s.drop a) : Int) else (val (s.drop a) : Int), true) else ((0 : Int), false)) = some (if s.drop a = [] ∨ 18 < (s.drop a).length ∨ ((s.drop a).head? = some 48 ∧ 1 < s.length) ∨ ¬ (s.drop a).all dgt = true then (0, false) else (if a = 1 then -(val (s.drop a) : Int) else (val (s.drop a) : Int), true)) := by
    intro hn
    congr 1
    by_cases hall : (s.drop a).all dgt = true
    · rw [if_pos hall]
      refine (if_neg ?_).symm
      rintro (h | h | h | h)
      · exact hne h
      · rw [List.length_drop] at h; omega
      · exact hn h
      · exact h hall
    · rw [if_neg hall]
      exact (if_pos (Or.inr (Or.inr (Or.inr hall)))).symm
  by_cases hx48 : x = 48
  · rw [decide_eq_true (b48.2 hx48), bif_t]
    by_cases h1 : 1 < s.length
    · rw [decide_eq_true (by omega), bif_t, if_pos (Or.inr (Or.inr (Or.inl ⟨by rw [hh, hx48], h1⟩)))]
    · rw [decide_eq_false (by omega), bif_f]
      exact fin (fun h => h1 h.2)
  · rw [decide_eq_false (fun e => hx48 (b48.1 e)), bif_f]
    exact fin (fun h => hx48 (by rw [hh] at h; exact Option.some.inj h.1))
theorem numAt_eq (s : List UInt8) (a : Nat) (h : a = if s.head? = some 45 then 1 else 0) : numAt s a = readDec s := by
  have back : ∀ v, isNum s v → ¬ (s.drop a = [] ∨ 18 < (s.drop a).length ∨ ((s.drop a).head? = some 48 ∧ 1 < s.length) ∨ ¬ (s.drop a).all dgt = true) ∧ (if a = 1 then -(val (s.drop a) : Int) else (val (s.drop a) : Int)) = v := by
    rintro v ⟨hs, hl⟩
    obtain ⟨q1, q2, q3, q4⟩ := dig_val v.natAbs
    rw [itoa_abs] at hs
    by_cases hv : v < 0
    · rw [if_pos hv] at hs
      have ha : a = 1 := by rw [h, hs]; rfl
      subst ha
      have hd : s.drop 1 = decDigits v.natAbs := by rw [hs]; rfl
      rw [hd, q1]
      refine ⟨?_, by rw [if_pos rfl]; omega⟩
      rintro (e | e | e | e)
      · exact q3 e
      · omega
      · exact q4 (by omega) e.1
      · exact e q2
    · rw [if_neg hv] at hs
      have ha : a = 0 := by
        rw [h, if_neg]
        rw [hs]
        obtain ⟨c, t, e, hc⟩ := dig_head v.natAbs
        rw [e]
        intro e2
        simp only [List.head?_cons, Option.some.injEq] at e2
        rw [e2] at hc
        exact absurd hc (by decide)
      subst ha
      rw [List.drop_zero]
      refine ⟨?_, by rw [hs, q1, if_neg (by decide)]; omega⟩
      rintro (e | e | e | e)
      · rw [hs] at e; exact q3 e
      · rw [hs] at e; omega
      · obtain ⟨e1, e2⟩ := e
        rw [hs] at e1 e2
        by_cases hu : v.natAbs = 0
        · rw [hu, decDigits, dif_pos (by decide)] at e2; simp at e2
        · exact q4 hu e1
      · rw [hs] at e; exact e q2
  unfold numAt
  by_cases hc : s.drop a = [] ∨ 18 < (s.drop a).length ∨ ((s.drop a).head? = some 48 ∧ 1 < s.length) ∨ ¬ (s.drop a).all dgt = true
  · rw [if_pos hc, readDec_no (fun v hv => (back v hv).1 hc)]
  · rw [if_neg hc]
    simp only [not_or, Decidable.not_not] at hc
    obtain ⟨c1, c2, c3, c4⟩ := hc
    have hdig : decDigits (val (s.drop a)) = s.drop a := val_dig _ _ rfl c4 c1 (by
      intro e
      have hs1 : s.length ≤ 1 := by
        apply Decidable.byContradiction
        intro hn
        exact c3 ⟨e, by omega⟩
      have : 1 ≤ (s.drop a).length := List.length_pos_iff.2 c1
      rw [List.length_drop] at this ⊢
      omega)
    by_cases hh : s.head? = some 45
    · have ha : a = 1 := by rw [h, if_pos hh]
      subst ha
      obtain ⟨t, rfl⟩ : ∃ t, s = 45 :: t := by
        cases s with
        | nil => cases hh
        | cons x t => simp only [List.head?_cons, Option.some.injEq] at hh; exact ⟨t, by rw [hh]⟩
      have hd1 : (45 :: t).drop 1 = t := rfl
      rw [hd1] at c1 c2 c3 c4 hdig ⊢
      have hpos : val t ≠ 0 := by
        intro e
        have e0 : decDigits 0 = [48] := by rw [decDigits, dif_pos (by decide)]; rfl
        rw [e, e0] at hdig
        rw [← hdig] at c3
        exact c3 ⟨rfl, by simp⟩
      rw [if_pos rfl]
      refine (readDec_num ⟨?_, ?_⟩).symm
      · rw [itoa_abs, if_pos (by omega), show (-(val t : Int)).natAbs = val t by omega, hdig]
      · rw [show (-(val t : Int)).natAbs = val t by omega, hdig]; omega
    · have ha : a = 0 := by rw [h, if_neg hh]
      subst ha
      rw [List.drop_zero] at *
      rw [if_neg (by decide)]
      refine (readDec_num ⟨?_, ?_⟩).symm
      · rw [itoa_abs, if_neg (by omega), show ((val s : Int)).natAbs = val s by omega, hdig]
      · rw [show ((val s : Int)).natAbs = val s by omega, hdig]; omega
theorem Number_eq (s : List UInt8) (hs : s.length ≤ 9223372036854775806) : F_spec_l01Number s = some (readDec s) := by
  unfold F_spec_l01Number
  cases s with
  | nil =>
    rw [decide_eq_false (by simp), bif_f]
    exact (j0_eq [] 0 (by decide) (by simp) hs).trans (by rw [numAt_eq [] 0 rfl])
  | cons x t =>
    rw [decide_eq_true (by rw [List.length_cons]; omega), bif_t, ix_zero, Option.bind_some]
    have b45 : ((x.toNat : Int) = 45) ↔ x = 45 := by
      constructor
      · intro h; exact UInt8.toNat_inj.1 (by show x.toNat = 45; omega)
      · rintro rfl; rfl
    by_cases hx : x = 45
    · rw [decide_eq_true (b45.2 hx), bif_t]
      exact (j0_eq (x :: t) 1 (by decide) (by rw [List.length_cons]; omega) hs).trans (by rw [numAt_eq _ 1 (by rw [hx]; rfl)])
    · rw [decide_eq_false (fun e => hx (b45.1 e)), bif_f]
      exact (j0_eq (x :: t) 0 (by decide) (by omega) hs).trans (by rw [numAt_eq _ 0 (by rw [if_neg]; simpa using hx)])
end Go.Ab
/- Lists of numbers read (own text). -/
set_option linter.unusedVariables false
set_option linter.unusedSimpArgs false
namespace Go.Ab
open Go.RowKit
open Go.Lib (itoa decDigits join)
theorem spl_count (c : UInt8) : ∀ s : List UInt8, (spl c s).length = s.count c + 1
  | [] => rfl
  | x :: s => by
    have ih := spl_count c s
    have ha : ∀ l : List (List UInt8), l ≠ [] → (ahead [x] l).length = l.length := by
      intro l hl
      cases l with
      | nil => exact absurd rfl hl
      | cons => rfl
    by_cases hx : x = c
    · subst hx; simp only [spl, if_true, List.length_cons, List.count_cons_self, ih]
    · simp only [spl, hx, if_false]
      rw [ha _ (spl_ne c s), ih, List.count_cons_of_ne hx]
theorem splN_ne (c : UInt8) : ∀ (k : Nat) (s : List UInt8), splN c k s ≠ []
  | 0, s => by simp [splN]
  | k + 1, [] => by simp [splN]
  | k + 1, x :: s => by
    simp only [splN]
    split
    · simp
    · exact ahead_ne _ _
theorem splN_count (c : UInt8) : ∀ (s : List UInt8) (k : Nat), (splN c k s).length = min k (s.count c) + 1
  | s, 0 => by simp [splN]
  | [], k + 1 => by simp [splN]
  | x :: s, k + 1 => by
    have ha : ∀ l : List (List UInt8), l ≠ [] → (ahead [x] l).length = l.length := by
      intro l hl
      cases l with
      | nil => exact absurd rfl hl
      | cons => rfl
    by_cases hx : x = c
    · subst hx
      simp only [splN, if_true, List.length_cons, splN_count x s k, List.count_cons_self]
      omega
    · simp only [splN, hx, if_false]
      rw [ha _ (splN_ne c _ s), splN_count c s (k + 1), List.count_cons_of_ne hx]
theorem join_ahead (p sep : List UInt8) (l : List (List UInt8)) (h : l ≠ []) : join (ahead p l) sep = p ++ join l sep := by
  cases l with
  | nil => exact absurd rfl h
  | cons x t => simp only [ahead, Go.Lib.join_cons, List.append_assoc]
theorem join_spl (c : UInt8) : ∀ s : List UInt8, join (spl c s) [c] = s
  | [] => rfl
  | x :: s => by
    have ih := join_spl c s
    by_cases hx : x = c
    · subst hx
      simp only [spl, if_true]
      cases h : spl x s with
      | nil => exact absurd h (spl_ne x s)
      | cons y t =>
        rw [h, Go.Lib.join_cons] at ih
        rw [Go.Lib.join_cons]
        simp only [Go.Lib.joinTail, List.map_cons, List.flatten_cons, List.nil_append, List.cons_append, List.singleton_append] at ih ⊢
        rw [← ih]
    · simp only [spl, hx, if_false]
      rw [join_ahead _ _ _ (spl_ne c s), ih]; rfl
theorem tail_len (m : Nat) (sep : List UInt8) : ∀ L : List (List UInt8), (∀ x ∈ L, x.length ≤ m) → (Go.Lib.joinTail sep L).length ≤ L.length * (m + sep.length)
  | [], _ => by simp [Go.Lib.joinTail]
  | x :: L, h => by
    have ih := tail_len m sep L (fun y hy => h y (by simp [hy]))
    have hx := h x (by simp)
    simp only [Go.Lib.joinTail, List.map_cons, List.flatten_cons, List.length_append, List.length_cons, Nat.add_mul, Nat.one_mul] at ih ⊢
    omega
theorem join_len (m : Nat) (sep : List UInt8) (L : List (List UInt8)) (h : ∀ x ∈ L, x.length ≤ m) : (join L sep).length ≤ (L.length + 1) * (m + sep.length) := by
  cases L with
  | nil => simp [Go.Lib.join_nil]
  | cons x L =>
    have hx := h x (by simp)
    have := tail_len m sep L (fun y hy => h y (by simp [hy]))
    rw [Go.Lib.join_cons, List.length_append, List.length_cons]
    have e : (L.length + 1 + 1) * (m + sep.length) = L.length * (m + sep.length) + (m + sep.length) + (m + sep.length) := by simp only [Nat.add_mul, Nat.one_mul]
    omega
def okN (n : Int) : Bool := decide (-1000000000000 ≤ n ∧ n ≤ 1000000000000)
theorem itoa_len {n : Int} (h : okN n = true) : (itoa n).length ≤ 14 := by
  have h := of_decide_eq_true h
  rw [itoa_abs]
  have := dig_len 12 n.natAbs (by omega)
  split
  · rw [List.length_cons]; omega
  · omega
/-- A list of numbers as text. -/
def lText (A : List Int) : List UInt8 := if 64 < A.length then [] else if A.length = 0 then [45] else if A.all okN = true then join (A.map itoa) [44] else []
theorem within_eq (n a b : Int) : F_impl_within n a b = some (decide (a ≤ n ∧ n ≤ b)) := by
  unfold F_impl_within
  by_cases h : a ≤ n
  · rw [decide_eq_true h, bif_t]; simp [h]
  · rw [decide_eq_false h, bif_f]; simp [h]
theorem In_eq (n a b : Int) : F_spec_l00In n a b = some (decide (a ≤ n ∧ n ≤ b)) := by
  unfold F_spec_l00In
  by_cases h : a ≤ n
  · rw [decide_eq_true h, bif_t]; simp [h]
  · rw [decide_eq_false h, bif_f]; simp [h]
theorem Decimal_eq {n : Int} (h : -9223372036854775808 ≤ n ∧ n ≤ 9223372036854775807) : F_impl_Decimal n = some (itoa n) := by
  unfold F_impl_Decimal F_formatInt
  rw [need_true ⟨by decide, h.1, h.2⟩]; rfl
theorem ListText_eq (A : List Int) : F_impl_ListText A = some (lText A) := by
  unfold F_impl_ListText lText
  by_cases h64 : 64 < A.length
  · rw [decide_eq_true (by omega), bif_t, if_pos h64]
  rw [decide_eq_false (by omega), bif_f, if_neg h64]
  by_cases h0 : A.length = 0
  · rw [decide_eq_true (by omega), bif_t, if_pos h0]
  rw [decide_eq_false (by omega), bif_f, if_neg h0, need_true ⟨by omega, by omega, by omega, by omega⟩]
  suffices H : ∃ r, loop (F_impl_ListText_l0 A) (0, List.replicate ((0 : Int)).toNat ([] : List UInt8)) = some r ∧ r = if A.all okN = true then join (A.map itoa) [44] else [] by
    obtain ⟨r, e, hr⟩ := H
    rw [e, hr]
  refine loop_ex (L := A) (fun i st => st.1 = (i : Int) ∧ st.2 = (A.take i).map itoa ∧ (A.take i).all okN = true) (by omega) ⟨rfl, rfl, rfl⟩ ?_ ?_
  · rintro i ⟨j, acc⟩ k x hx hi ⟨rfl, hacc, hok⟩ hk
    dsimp only at hacc hok
    subst hacc
    have hlt := get_lt hx
    simp only [F_impl_ListText_l0, int_lt hlt, ix_get hx, Option.bind_some, bif_t, w64_succ hi, within_eq]
    have ew : decide (-1000000000000 ≤ x ∧ x ≤ 1000000000000) = okN x := rfl
    rw [ew]
    cases hd : okN x
    · rw [Bool.not_false, bif_t, if_neg]
      · exact ⟨_, rfl, rfl⟩
      · intro hall
        rw [List.all_eq_true] at hall
        rw [hall x (get_mem hx)] at hd
        cases hd
    · have hx' := of_decide_eq_true hd
      rw [Bool.not_true, bif_f, Decimal_eq (by omega), Option.bind_some, need_true (p := room (((A.take i).map itoa).length + [itoa x].length) 16) (show room (((A.take i).map itoa).length + 1) 16 by rw [List.length_map, List.length_take]; exact ⟨by omega, by omega⟩)]
      refine hk _ ⟨rfl, ?_, ?_⟩
      · dsimp only; rw [take_succ hx, List.map_append]; rfl
      · rw [take_succ hx, List.all_append, hok]; simp [hd]
  · rintro ⟨j, acc⟩ k ⟨rfl, hacc, hok⟩
    dsimp only at hacc hok
    rw [take_all (Nat.le_refl _)] at hacc hok
    subst hacc
    simp only [F_impl_ListText_l0, int_lt_self, bif_f]
    have hj := join_len 14 [44] (A.map itoa) (by
      intro y hy
      obtain ⟨n, hn, rfl⟩ := List.mem_map.1 hy
      exact itoa_len (List.all_eq_true.1 hok n hn))
    rw [List.length_map] at hj
    have hj2 : (A.length + 1) * (14 + [(44 : UInt8)].length) ≤ 65 * 15 := Nat.mul_le_mul (by omega) (by decide)
    unfold F_join
    rw [need_true ⟨by rw [List.length_map]; omega, by omega⟩, if_pos hok]
    exact ⟨_, rfl, rfl⟩
def goodP (p : List UInt8) : Bool := (readDec p).2 && okN (readDec p).1
/-- A list of numbers read. -/
def rList (s : List UInt8) : List Int × Bool := if s = [45] then ([], true) else if 64 < (spl 44 s).length then ([], false) else if (spl 44 s).all goodP = true then ((spl 44 s).map (fun p => (readDec p).1), true) else ([], false)
theorem sReadList_eq (s : List UInt8) (hs : s.length ≤ 1048576) : F_spec_ReadList s = some (rList s) := by
  unfold F_spec_ReadList rList
  rw [bif_dec]
  split
  · rfl
  have : F_spec_l01Split s 44 = some (spl 44 s) := Split_eq s 44 (by omega)
  rw [this, Option.bind_some]
  have hm : ∀ x ∈ spl 44 s, x.length ≤ 1048576 := fun x hx => by have := (spl_sum 44 s x hx).1; omega
  generalize spl 44 s = L at *
  by_cases h64 : 64 < L.length
  · rw [decide_eq_true (by omega), bif_t, if_pos h64]
  rw [decide_eq_false (by omega), bif_f, if_neg h64]
  suffices H : ∃ r, loop (F_spec_ReadList_l0 L) (0, []) = some r ∧ r = if L.all goodP = true then (L.map (fun p => (readDec p).1), true) else ([], false) by
    obtain ⟨r, e, hr⟩ := H
    rw [e, hr]
  refine loop_ex (L := L) (fun i st => st.1 = (i : Int) ∧ st.2 = (L.take i).map (fun p => (readDec p).1) ∧ (L.take i).all goodP = true) (by omega) ⟨rfl, rfl, rfl⟩ ?_ ?_
  · rintro i ⟨j, acc⟩ k x hx hi ⟨rfl, hacc, hok⟩ hk
    dsimp only at hacc hok
    subst hacc
    have hlt := get_lt hx
    have no : goodP x = false → ¬ L.all goodP = true := by
      intro hd hall
      rw [List.all_eq_true] at hall
      rw [hall x (get_mem hx)] at hd
      cases hd
    simp only [F_spec_ReadList_l0, int_lt hlt, ix_get hx, Option.bind_some, bif_t, w64_succ hi, Number_eq x (by have := hm x (get_mem hx); omega), In_eq]
    have ew : decide (-1000000000000 ≤ (readDec x).1 ∧ (readDec x).1 ≤ 1000000000000) = okN (readDec x).1 := rfl
    rw [ew]
    cases h2 : (readDec x).2
    · rw [Bool.not_false, bif_t, if_neg (no (by unfold goodP; rw [h2]; rfl))]
      exact ⟨_, rfl, rfl⟩
    · rw [Bool.not_true, bif_f]
      cases hd : okN (readDec x).1
      · rw [Bool.not_false, bif_t, if_neg (no (by unfold goodP; rw [h2, hd]; rfl))]
        exact ⟨_, rfl, rfl⟩
      · rw [Bool.not_true, bif_f, need_true (p := room (((L.take i).map (fun p => (readDec p).1)).length + [(readDec x).1].length) 8) (show room (((L.take i).map (fun p => (readDec p).1)).length + 1) 8 by rw [List.length_map, List.length_take]; exact ⟨by omega, by omega⟩)]
        refine hk _ ⟨rfl, ?_, ?_⟩
        · dsimp only; rw [take_succ hx, List.map_append]; rfl
        · rw [take_succ hx, List.all_append, hok]; simp [goodP, h2, hd]
  · rintro ⟨j, acc⟩ k ⟨rfl, hacc, hok⟩
    dsimp only at hacc hok
    rw [take_all (Nat.le_refl _)] at hacc hok
    subst hacc
    simp only [F_spec_ReadList_l0, int_lt_self, bif_f]
    rw [if_pos hok]
    exact ⟨_, rfl, rfl⟩
theorem readDec_back {p : List UInt8} (h : (readDec p).2 = true) : itoa (readDec p).1 = p := by
  by_cases hn : ∃ v, isNum p v
  · obtain ⟨v, hv⟩ := hn
    rw [readDec_num hv]; exact hv.1.symm
  · rw [readDec_no (fun v hv => hn ⟨v, hv⟩)] at h; cases h
theorem readDec_nil : readDec [] = (0, false) := readDec_no (by
  rintro v ⟨h, _⟩
  rw [itoa_abs] at h
  obtain ⟨c, t, e, _⟩ := dig_head v.natAbs
  rw [e] at h
  split at h <;> cases h)
theorem iReadList_eq (s : List UInt8) (hs : s.length ≤ 1048576) : F_impl_ReadList s = some (rList s) := by
  unfold F_impl_ReadList rList
  rw [bif_dec]
  split
  · rfl
  rename_i h45
  have hsN : F_splitN s [44] 65 = some (splN 44 (min 65 (s.length + 1) - 1) s) := F_splitN_eq (n := 65) 44 (by omega) (by decide) (by decide)
  rw [hsN, Option.bind_some]
  generalize hk0 : min 65 (s.length + 1) - 1 = k0
  have hm : ∀ x ∈ splN 44 k0 s, x.length ≤ 1048576 + 1 := by
    have : ∀ (s : List UInt8) (k : Nat), ∀ x ∈ splN 44 k s, x.length ≤ s.length := by
      intro s
      induction s with
      | nil => intro k x hx; cases k <;> simp [splN] at hx <;> simp [hx]
      | cons y s ih =>
        intro k x hx
        cases k with
        | zero => simp [splN] at hx; simp [hx]
        | succ k =>
          simp only [splN] at hx
          split at hx
          · rcases List.mem_cons.1 hx with rfl | hx
            · simp
            · have := ih k x hx; rw [List.length_cons]; omega
          · cases h : splN 44 (k + 1) s with
            | nil => exact absurd h (splN_ne 44 (k + 1) s)
            | cons z t =>
              rw [h] at hx
              simp only [ahead] at hx
              rcases List.mem_cons.1 hx with rfl | hx
              · have := ih (k + 1) z (by rw [h]; simp)
                simp only [List.length_append, List.length_cons, List.length_nil]; omega
              · have := ih (k + 1) x (by rw [h]; simp [hx])
                rw [List.length_cons]; omega
    intro x hx
    have := this s k0 x hx
    omega
  have hcnt : s.count 44 ≤ s.length := List.count_le_length
  have hlen := splN_count 44 s k0
  have hlen2 := spl_count 44 s
  have hfull : ¬ 64 < (spl 44 s).length → splN 44 k0 s = spl 44 s := fun h => splN_all 44 s k0 (by omega)
  have hover : 64 < (spl 44 s).length → (splN 44 k0 s).length = 65 := fun h => by omega
  have hjoin := join_spl 44 s
  have hL65 : (splN 44 k0 s).length ≤ 65 := by omega
  generalize hL' : splN 44 k0 s = K at *
  suffices H : ∃ r, loop (F_impl_ReadList_l0 s K) (0, []) = some r ∧ r = if 64 < (spl 44 s).length then ([], false) else if (spl 44 s).all goodP = true then ((spl 44 s).map (fun p => (readDec p).1), true) else ([], false) by
    obtain ⟨r, e, hr⟩ := H
    rw [e, hr]
  refine loop_ex (L := K) (fun i st => st.1 = (i : Int) ∧ st.2 = (K.take i).map (fun p => (readDec p).1) ∧ ∀ p ∈ K.take i, (readDec p).2 = true) (by omega) ⟨rfl, rfl, fun p hp => by simp at hp⟩ ?_ ?_
  · rintro i ⟨j, acc⟩ k x hx hi ⟨rfl, hacc, hok⟩ hk
    dsimp only at hacc hok
    subst hacc
    have hlt := get_lt hx
    have hrd : F_readDec x = some (readDec x) := by unfold F_readDec; exact need_true (by have := hm x (get_mem hx); omega)
    simp only [F_impl_ReadList_l0, int_lt hlt, ix_get hx, Option.bind_some, bif_t, w64_succ hi, hrd]
    cases h2 : (readDec x).2
    · rw [Bool.not_false, bif_t]
      refine ⟨_, rfl, ?_⟩
      split
      · rfl
      · rename_i h64
        rw [← hfull h64, if_neg]
        intro hall
        rw [List.all_eq_true] at hall
        have := hall x (get_mem hx)
        unfold goodP at this
        rw [h2] at this
        cases this
    · rw [Bool.not_true, bif_f, need_true (p := room (((K.take i).map (fun p => (readDec p).1)).length + [(readDec x).1].length) 8) (show room (((K.take i).map (fun p => (readDec p).1)).length + 1) 8 by rw [List.length_map, List.length_take]; exact ⟨by omega, by omega⟩)]
      refine hk _ ⟨rfl, ?_, ?_⟩
      · dsimp only; rw [take_succ hx, List.map_append]; rfl
      · intro p hp
        rw [take_succ hx] at hp
        rcases List.mem_append.1 hp with hp | hp
        · exact hok p hp
        · rw [List.mem_singleton.1 hp]; exact h2
  · rintro ⟨j, acc⟩ k ⟨rfl, hacc, hok⟩
    dsimp only at hacc hok
    rw [take_all (Nat.le_refl _)] at hacc hok
    subst hacc
    simp only [F_impl_ReadList_l0, int_lt_self, bif_f, ListText_eq, Option.bind_some]
    have hsne : s ≠ [] := by
      rintro rfl
      have e : K = [[]] := by rw [← hL']; cases k0 <;> rfl
      have := hok [] (by rw [e]; simp)
      rw [readDec_nil] at this
      cases this
    by_cases h64 : 64 < (spl 44 s).length
    · rw [if_pos h64]
      have : lText (K.map (fun p => (readDec p).1)) = [] := by unfold lText; rw [if_pos (by rw [List.length_map, hover h64]; decide)]
      rw [this, decide_eq_true (Ne.symm hsne), bif_t]
      exact ⟨_, rfl, rfl⟩
    · have hKe := hfull h64
      rw [if_neg h64, ← hKe]
      have hKl : K.length ≠ 0 := by rw [hKe, hlen2]; omega
      have hgo : K.all goodP = (K.map (fun p => (readDec p).1)).all okN := by
        rw [Bool.eq_iff_iff, List.all_eq_true, List.all_eq_true]
        constructor
        · intro h y hy
          obtain ⟨p, hp, rfl⟩ := List.mem_map.1 hy
          have := h p hp
          unfold goodP at this
          rw [Bool.and_eq_true] at this
          exact this.2
        · intro h p hp
          unfold goodP
          rw [hok p hp, h _ (List.mem_map.2 ⟨p, hp, rfl⟩)]; rfl
      by_cases hall : K.all goodP = true
      · rw [if_pos hall]
        have e : lText (K.map (fun p => (readDec p).1)) = s := by
          unfold lText
          rw [if_neg (by rw [List.length_map, hKe]; exact h64), if_neg (by rw [List.length_map]; exact hKl), if_pos (by rw [← hgo]; exact hall), List.map_map]
          have : K.map (itoa ∘ fun p => (readDec p).1) = K := by
            have h : ∀ p ∈ K, (itoa ∘ fun p => (readDec p).1) p = p := fun p hp => readDec_back (hok p hp)
            calc K.map (itoa ∘ fun p => (readDec p).1) = K.map id := List.map_congr_left h
              _ = K := List.map_id K
          rw [this, hKe, hjoin]
        rw [e, decide_eq_false (by simp), bif_f]
        exact ⟨_, rfl, rfl⟩
      · rw [if_neg hall]
        have : lText (K.map (fun p => (readDec p).1)) = [] := by
          unfold lText
          rw [if_neg (by rw [List.length_map, hKe]; exact h64), if_neg (by rw [List.length_map]; exact hKl), if_neg (by rw [← hgo]; exact hall)]
        rw [this, decide_eq_true (Ne.symm hsne), bif_t]
        exact ⟨_, rfl, rfl⟩
end Go.Ab
/- Lists of numbers read and written again (own text). -/
set_option linter.unusedVariables false
set_option linter.unusedSimpArgs false
namespace Go.Ab
open Go.RowKit
open Go.Lib (itoa decDigits join)
theorem rl_text {s : List UInt8} (h : (rList s).2 = true) : lText (rList s).1 = s := by
  unfold rList at h ⊢
  by_cases h45 : s = [45]
  · rw [if_pos h45]; subst h45; rfl
  rw [if_neg h45] at h ⊢
  by_cases h64 : 64 < (spl 44 s).length
  · rw [if_pos h64] at h; cases h
  rw [if_neg h64] at h ⊢
  by_cases hall : (spl 44 s).all goodP = true
  · rw [if_pos hall]
    have hjoin := join_spl 44 s
    have hlen2 := spl_count 44 s
    generalize spl 44 s = K at *
    have hg : ∀ p ∈ K, (readDec p).2 = true ∧ okN (readDec p).1 = true := by
      intro p hp
      have := List.all_eq_true.1 hall p hp
      unfold goodP at this
      rwa [Bool.and_eq_true] at this
    dsimp only
    unfold lText
    rw [if_neg (by rw [List.length_map]; exact h64), if_neg (by rw [List.length_map]; omega), if_pos (by
      rw [List.all_eq_true]
      intro y hy
      obtain ⟨p, hp, rfl⟩ := List.mem_map.1 hy
      exact (hg p hp).2), List.map_map]
    have : K.map (itoa ∘ fun p => (readDec p).1) = K := by
      have h : ∀ p ∈ K, (itoa ∘ fun p => (readDec p).1) p = p := fun p hp => readDec_back (hg p hp).1
      calc K.map (itoa ∘ fun p => (readDec p).1) = K.map id := List.map_congr_left h
        _ = K := List.map_id K
    rw [this, hjoin]
  · rw [if_neg hall] at h; cases h
theorem lText_len (A : List Int) : (lText A).length ≤ 1000 := by
  unfold lText
  split
  · simp
  · split
    · simp
    · split
      · rename_i h1 h2 hok
        have hj := join_len 14 [44] (A.map itoa) (by
          intro y hy
          obtain ⟨n, hn, rfl⟩ := List.mem_map.1 hy
          exact itoa_len (List.all_eq_true.1 hok n hn))
        rw [List.length_map] at hj
        have hj2 : (A.length + 1) * (14 + [(44 : UInt8)].length) ≤ 65 * 15 := Nat.mul_le_mul (by omega) (by decide)
        omega
      · simp
end Go.Ab
/- ReadPattern (own text). -/
set_option linter.unusedVariables false
set_option linter.unusedSimpArgs false
namespace Go.Ab
open Go.RowKit
open Go.Lib (itoa decDigits join)
theorem spl_cut (c : UInt8) : ∀ s : List UInt8, spl c s = if c ∈ s then (cutA c s).1 :: spl c (cutA c s).2.1 else [s]
  | [] => rfl
  | x :: s => by
    have ih := spl_cut c s
    by_cases hx : x = c
    · subst hx
      rw [if_pos (by simp)]
      simp [spl, cutA]
    · have hcx : ¬ c = x := fun e => hx e.symm
      simp only [spl, hx, if_false]
      rw [ih]
      simp only [List.mem_cons, hcx, false_or, cutA, List.takeWhile_cons, List.dropWhile_cons, hx, decide_false, Bool.not_false, if_true]
      split <;> rfl
theorem mem_tail {c x : UInt8} : ∀ {L : List (List UInt8)}, x ∈ Go.Lib.joinTail [c] L → x = c ∨ ∃ p ∈ L, x ∈ p
  | [], h => by simp [Go.Lib.joinTail] at h
  | y :: L, h => by
    simp only [Go.Lib.joinTail, List.map_cons, List.flatten_cons, List.cons_append, List.nil_append, List.mem_cons, List.mem_append] at h
    rcases h with h | h | h
    · exact .inl h
    · exact .inr ⟨y, by simp, h⟩
    · rcases mem_tail (L := L) h with h | ⟨p, hp, h⟩
      · exact .inl h
      · exact .inr ⟨p, by simp [hp], h⟩
theorem mem_join {c x : UInt8} {L : List (List UInt8)} (h : x ∈ join L [c]) : x = c ∨ ∃ p ∈ L, x ∈ p := by
  cases L with
  | nil => rw [Go.Lib.join_nil] at h; cases h
  | cons y L =>
    rw [Go.Lib.join_cons] at h
    rcases List.mem_append.1 h with h | h
    · exact .inr ⟨y, by simp, h⟩
    · rcases mem_tail h with h | ⟨p, hp, h⟩
      · exact .inl h
      · exact .inr ⟨p, by simp [hp], h⟩
theorem colon_itoa (n : Int) : (58 : UInt8) ∉ itoa n := by
  intro h
  obtain ⟨_, h2, _, _⟩ := dig_val n.natAbs
  have key : (58 : UInt8) ∉ decDigits n.natAbs := by
    intro h
    have := List.all_eq_true.1 h2 _ h
    exact absurd this (by decide)
  rw [itoa_abs] at h
  split at h
  · rcases List.mem_cons.1 h with h | h
    · exact absurd h (by decide)
    · exact key h
  · exact key h
theorem rl_colon {s : List UInt8} (h : (58 : UInt8) ∈ s) : rList s = ([], false) := by
  unfold rList
  rw [if_neg (by rintro rfl; simp at h)]
  split
  · rfl
  rw [if_neg]
  intro hall
  have hj := join_spl 44 s
  rw [← hj] at h
  rcases mem_join h with h | ⟨p, hp, h⟩
  · exact absurd h (by decide)
  · have := List.all_eq_true.1 hall p hp
    unfold goodP at this
    rw [Bool.and_eq_true] at this
    rw [← readDec_back this.1] at h
    exact colon_itoa _ h
theorem rl_nil : rList [] = ([], false) := by
  unfold rList
  rw [if_neg (by simp), if_neg (by simp [spl]), if_neg]
  simp [spl, goodP, readDec_nil]
def okP (n : Int) : Bool := decide (-12 ≤ n ∧ n ≤ 23)
def patOk (p : TPattern) : Bool := decide (1 ≤ p.1.length ∧ p.1.length ≤ 8) && (p.1.all okP && decide (0 ≤ p.2 ∧ p.2 ≤ 1000))
theorem l11One_eq (p : TPattern) (hl : p.1.length ≤ 64) : F_spec_l11One p = some (patOk p) := by
  unfold F_spec_l11One patOk
  have h5 : F_spec_l05Pitches p.1 = some (p.1.all okP) := by
    unfold F_spec_l05Pitches
    refine loop_all okP (by omega) ?_ ?_
    · intro i k a ha hi
      simp only [F_spec_l05Pitches_l0, F_spec_l03Pitch, int_lt (get_lt ha), ix_get ha, Option.bind_some, bif_t, In_eq, w64_succ hi]
      have : decide (-12 ≤ a ∧ a ≤ 23) = okP a := rfl
      rw [this]
      cases okP a <;> rfl
    · intro k
      simp only [F_spec_l05Pitches_l0, int_lt_self, bif_f]
      rw [decide_eq_true (by omega)]
  rw [h5]
  simp only [In_eq, Option.bind_some]
  have e : decide (1 ≤ (p.1.length : Int) ∧ (p.1.length : Int) ≤ 8) = decide (1 ≤ p.1.length ∧ p.1.length ≤ 8) := by
    by_cases h : 1 ≤ p.1.length ∧ p.1.length ≤ 8
    · rw [decide_eq_true h, decide_eq_true (by omega)]
    · rw [decide_eq_false h, decide_eq_false (by omega)]
  rw [e]
  cases decide (1 ≤ p.1.length ∧ p.1.length ≤ 8) <;> cases p.1.all okP <;> rfl
theorem allWithin_eq (A : List Int) (hA : A.length ≤ 9223372036854775807) : F_impl_allWithin A (-12) 23 = some (A.all okP) := by
  unfold F_impl_allWithin F_slices_ContainsFunc_Sint64_int64 F_slices_IndexFunc_Sint64_int64
  have H : ∃ r, loop (F_slices_IndexFunc_Sint64_int64_l0 A (-12) 23) 0 = some r ∧ (0 ≤ r ↔ ¬ A.all okP = true) := by
    refine loop_ex (L := A) (fun i st => st = (i : Int) ∧ (A.take i).all okP = true) hA ⟨rfl, rfl⟩ ?_ ?_
    · rintro i st k x hx hi ⟨rfl, hok⟩ hk
      simp only [F_slices_IndexFunc_Sint64_int64_l0, F_impl_allWithin_1, int_lt (get_lt hx), ix_get hx, Option.bind_some, bif_t, within_eq, w64_succ hi]
      have e : decide (-12 ≤ x ∧ x ≤ 23) = okP x := rfl
      rw [e]
      cases hd : okP x
      · rw [Bool.not_false, bif_t]
        refine ⟨_, rfl, ?_⟩
        constructor
        · intro _ hall
          rw [List.all_eq_true] at hall
          rw [hall x (get_mem hx)] at hd
          cases hd
        · intro _; omega
      · rw [Bool.not_true, bif_f]
        exact hk _ ⟨rfl, by rw [take_succ hx, List.all_append, hok]; simp [hd]⟩
    · rintro st k ⟨rfl, hok⟩
      rw [take_all (Nat.le_refl _)] at hok
      simp only [F_slices_IndexFunc_Sint64_int64_l0, int_lt_self, bif_f]
      refine ⟨_, rfl, ?_⟩
      constructor
      · intro h; omega
      · intro h; exact absurd hok h
  obtain ⟨r, e, hr⟩ := H
  rw [e]
  simp only [Option.bind_some]
  congr 1
  by_cases h : A.all okP = true
  · rw [h, decide_eq_false (fun h2 => hr.1 h2 h)]; rfl
  · rw [decide_eq_true (hr.2 h)]
    cases h3 : A.all okP
    · rfl
    · exact absurd h3 h
theorem Pattern_valid_eq (p : TPattern) (hl : p.1.length ≤ 64) : F_impl_Pattern_valid p = some (patOk p) := by
  unfold F_impl_Pattern_valid patOk
  rw [allWithin_eq p.1 (by omega)]
  simp only [within_eq, Option.bind_some]
  by_cases h1 : 1 ≤ p.1.length
  · rw [decide_eq_true (by omega : (1 : Int) ≤ (p.1.length : Int)), bif_t]
    by_cases h8 : p.1.length ≤ 8
    · have e8 : decide (1 ≤ p.1.length ∧ p.1.length ≤ 8) = true := decide_eq_true ⟨h1, h8⟩
      rw [decide_eq_true (by omega : (p.1.length : Int) ≤ 8), bif_t, e8]
      cases p.1.all okP <;> rfl
    · rw [decide_eq_false (by omega : ¬ (p.1.length : Int) ≤ 8), bif_f, decide_eq_false (by omega : ¬ (1 ≤ p.1.length ∧ p.1.length ≤ 8))]; rfl
  · rw [decide_eq_false (by omega : ¬ (1 : Int) ≤ (p.1.length : Int)), bif_f, decide_eq_false (by omega : ¬ (1 ≤ p.1.length ∧ p.1.length ≤ 8))]; rfl
def patText (p : TPattern) : List UInt8 := if patOk p = true then (itoa p.2 ++ [58]) ++ lText p.1 else []
theorem PatternText_eq (p : TPattern) (hl : p.1.length ≤ 64) : F_impl_PatternText p = some (patText p) := by
  unfold F_impl_PatternText patText
  rw [Pattern_valid_eq p hl, Option.bind_some]
  cases h : patOk p
  · rfl
  · rw [Bool.not_true, bif_f, if_pos rfl]
    unfold patOk at h
    simp only [Bool.and_eq_true, decide_eq_true_eq] at h
    have h5 := itoa_len (n := p.2) (decide_eq_true (by omega))
    have h6 := lText_len p.1
    rw [Decimal_eq (by omega), Option.bind_some, ListText_eq, need_true (by simp; omega), Option.bind_some, need_true (by simp; omega)]
def noPat : TPattern × Bool := (([], 0), false)
def rPat (s : List UInt8) : TPattern × Bool := match spl 58 s with
  | [a, b] => if (readDec a).2 = true ∧ (rList b).2 = true ∧ patOk ((rList b).1, (readDec a).1) = true then (((rList b).1, (readDec a).1), true) else noPat
  | _ => noPat
theorem rl_len (s : List UInt8) : (rList s).1.length ≤ 64 := by
  unfold rList
  split
  · simp
  · split
    · simp
    · split
      · simp only [List.length_map]; omega
      · simp
theorem rPat_no {s : List UInt8} (h : (spl 58 s).length ≠ 2) : rPat s = noPat := by
  unfold rPat
  split
  · rename_i e; rw [e] at h; exact absurd rfl h
  · rfl
theorem sPat_eq (s : List UInt8) (hs : s.length ≤ 1048576) : F_spec_ReadPattern s = some (rPat s) := by
  unfold F_spec_ReadPattern
  have : F_spec_l01Split s 58 = some (spl 58 s) := Split_eq s 58 (by omega)
  rw [this, Option.bind_some]
  have hm : ∀ x ∈ spl 58 s, x.length ≤ 1048576 := fun x hx => by have := (spl_sum 58 s x hx).1; omega
  by_cases h2 : (spl 58 s).length = 2
  · obtain ⟨a, b, e⟩ : ∃ a b, spl 58 s = [a, b] := by
      match spl 58 s, h2 with
      | [a, b], _ => exact ⟨a, b, rfl⟩
    unfold rPat
    rw [e] at hm ⊢
    have m0 := hm a (by simp); have m1 := hm b (by simp)
    have i0 : ix [a, b] 0 = some a := rfl
    have i1 : ix [a, b] 1 = some b := rfl
    rw [decide_eq_false (by simp), bif_f]
    simp only [i0, i1, Option.bind_some, Number_eq a (by omega), sReadList_eq b m1]
    cases h1 : (readDec a).2
    · rw [Bool.not_false, bif_t, if_neg (by simp)]; rfl
    rw [Bool.not_true, bif_f]
    cases h2 : (rList b).2
    · rw [Bool.not_false, bif_t, if_neg (by simp)]; rfl
    rw [Bool.not_true, bif_f, l11One_eq _ (rl_len b), Option.bind_some]
    cases hk : patOk ((rList b).1, (readDec a).1)
    · rw [Bool.not_false, bif_t, if_neg (by simp)]; rfl
    · rw [Bool.not_true, bif_f, if_pos (by simp)]
  · rw [decide_eq_true (by omega), bif_t, rPat_no h2]; rfl
theorem iPat_eq (s : List UInt8) (hs : s.length ≤ 1048576) : F_impl_ReadPattern s = some (rPat s) := by
  unfold F_impl_ReadPattern
  rw [F_cut_eq 58 (by omega), Option.bind_some]
  have hsc := spl_cut 58 s
  have hl1 : (cutA 58 s).1.length ≤ s.length := (List.takeWhile_prefix _).length_le
  have hl2 : (cutA 58 s).2.1.length ≤ s.length := by
    show (List.tail _).length ≤ _
    rw [List.length_tail]
    have := (List.dropWhile_suffix (l := s) (fun x => !decide (x = 58))).length_le
    omega
  have hj := join_spl 58 s
  have hrd : F_readDec (cutA 58 s).1 = some (readDec (cutA 58 s).1) := by unfold F_readDec; exact need_true (by omega)
  rw [hrd, Option.bind_some, iReadList_eq _ (by omega), Option.bind_some]
  have fail : (rList (cutA 58 s).2.1).2 = false → rPat s = noPat → (bif !(readDec (cutA 58 s).1).2 then some (([], 0), false)
      else (bif !(rList (cutA 58 s).2.1).2 then some (([], 0), false)
      else ((F_impl_PatternText ((rList (cutA 58 s).2.1).1, (readDec (cutA 58 s).1).1)).bind fun v1003 => (bif (decide (v1003 ≠ s)) then some (([], 0), false)
      else some (((rList (cutA 58 s).2.1).1, (readDec (cutA 58 s).1).1), true))))) = some (rPat s) := by
    intro h e
    rw [e, h]
    cases (readDec (cutA 58 s).1).2 <;> rfl
  by_cases hc : (58 : UInt8) ∈ s
  · rw [if_pos hc] at hsc
    by_cases hc2 : (58 : UInt8) ∈ (cutA 58 s).2.1
    · refine fail (by rw [rl_colon hc2]) (rPat_no ?_)
      have h3 := spl_count 58 (cutA 58 s).2.1
      have h4 : 1 ≤ (cutA 58 s).2.1.count 58 := List.count_pos_iff.2 hc2
      rw [hsc, List.length_cons]; omega
    · have hs2 := spl_cut 58 (cutA 58 s).2.1
      rw [if_neg hc2] at hs2
      rw [hs2] at hsc
      unfold rPat
      rw [hsc] at hj ⊢
      dsimp only
      generalize (cutA 58 s).1 = a at *
      generalize (cutA 58 s).2.1 = b at *
      have hse : s = (a ++ [58]) ++ b := by
        rw [← hj, Go.Lib.join_cons]
        simp [Go.Lib.joinTail]
      have hne : s ≠ [] := by rw [hse]; simp
      cases h1 : (readDec a).2
      · rw [Bool.not_false, bif_t, if_neg (by simp)]; rfl
      rw [Bool.not_true, bif_f]
      cases h2 : (rList b).2
      · rw [Bool.not_false, bif_t, if_neg (by simp)]; rfl
      rw [Bool.not_true, bif_f, PatternText_eq _ (rl_len b), Option.bind_some]
      have hb := readDec_back h1
      have ht := rl_text h2
      unfold patText
      dsimp only
      rw [hb, ht, ← hse]
      cases hk : patOk ((rList b).1, (readDec a).1)
      · rw [if_neg (by simp), decide_eq_true (Ne.symm hne), bif_t, if_neg (by simp)]; rfl
      · rw [if_pos rfl, decide_eq_false (by simp), bif_f, if_pos (by simp)]
  · rw [if_neg hc] at hsc
    refine fail ?_ (rPat_no (by rw [hsc]; simp))
    have : (cutA 58 s).2.1 = [] := by
      show (List.dropWhile _ s).tail = []
      have hd : List.dropWhile (fun x => !decide (x = 58)) s = [] := by
        have key : ∀ l : List UInt8, (58 : UInt8) ∉ l → List.dropWhile (fun x => !decide (x = 58)) l = [] := by
          intro l
          induction l with
          | nil => intro _; rfl
          | cons x l ih =>
            intro h
            have h1 : x ≠ 58 := fun e => h (by simp [e])
            have h2 : (58 : UInt8) ∉ l := fun e => h (by simp [e])
            rw [List.dropWhile_cons]
            simp only [h1, decide_false, Bool.not_false, if_true]
            exact ih h2
        exact key s hc
      rw [hd]; rfl
    rw [this, rl_nil]
theorem core_ReadPattern (a0 : List UInt8) (o0 : OkS a0) (s0 : SmS a0) : ∃ w, F_spec_ReadPattern a0 = some w ∧ F_impl_ReadPattern a0 = some w ∧ (CtPattern w.1) := by
  have hs : a0.length ≤ 1048576 := by have : (a0.length : Int) ≤ 1048576 := s0; omega
  refine ⟨rPat a0, sPat_eq a0 hs, iPat_eq a0 hs, ?_⟩
  have : (rPat a0).1.1.length ≤ 64 := by
    unfold rPat
    split
    · split
      · exact rl_len _
      · simp [noPat]
    · simp [noPat]
  exact ⟨⟨by omega, fun _ _ => trivial⟩, trivial⟩
end Go.Ab
