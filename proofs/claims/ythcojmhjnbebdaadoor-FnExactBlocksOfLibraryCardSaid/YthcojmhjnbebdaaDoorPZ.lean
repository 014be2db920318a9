/- Own texts, merged: PNames PWithin PMelody PLibrary PDig PDec PMelT PBol. -/
import Derived.Test.YthcojmhjnbebdaaDoorPS
import Derived.Test.YthcojmhjnbebdaaDoorPL
import Derived.Lib.ItoaNum
import Derived.Test.YthcojmhjnbebdaaDoorGT
import Derived.KernelRfl
/- Names (own text). -/
set_option linter.unusedVariables false
set_option linter.unusedSimpArgs false
namespace Go.Ab
open Go.RowKit

/-- A byte of a name. -/
def nb (b : UInt8) : Bool := decide ((97 ≤ b.toNat ∧ b.toNat ≤ 122) ∨ (48 ≤ b.toNat ∧ b.toNat ≤ 57))
def lowHead : List UInt8 → Bool
  | [] => false
  | b :: _ => decide (97 ≤ b.toNat ∧ b.toNat ≤ 122)
/-- A name. -/
def nameOk (s : List UInt8) : Bool := decide (s.length ≤ 10) && (lowHead s && s.all nb)
theorem l01Small_eq (c : Int) : F_spec_l01Small c = some (decide (97 ≤ c ∧ c ≤ 122)) := by
  unfold F_spec_l01Small
  by_cases h : 97 ≤ c <;> simp [h]
theorem l01Digit_eq (c : Int) : F_spec_l01Digit c = some (decide (48 ≤ c ∧ c ≤ 57)) := by
  unfold F_spec_l01Digit
  by_cases h : 48 ≤ c <;> simp [h]
theorem l01Name_eq (s : List UInt8) (hs : s.length ≤ 9223372036854775807) : F_spec_l01Name s = some (nameOk s) := by
  unfold F_spec_l01Name
  cases s with
  | nil => rfl
  | cons b t =>
    have e : loop (F_spec_l01Name_l0 (b :: t)) 0 = some ((b :: t).all nb) := by
      refine loop_all nb hs ?_ ?_
      · intro i k a ha hi
        simp only [F_spec_l01Name_l0, int_lt (get_lt ha), ix_get ha, Option.bind_some, bif_t, l01Small_eq, l01Digit_eq, w64_succ hi, ← decide_not, bif_dec, nb]
        repeat' split
        all_goals first | rfl | (exfalso; omega)
      · intro k; simp [F_spec_l01Name_l0]
    rw [e]
    simp only [reduceCtorEq, decide_false, bif_f, ix_zero, Option.bind_some, l01Small_eq, ← decide_not, bif_dec, nameOk, lowHead]
    split
    · rename_i h; rw [decide_eq_false (by omega)]; rfl
    · rename_i h
      rw [decide_eq_true (by omega)]
      split
      · rename_i h2; rw [decide_eq_false (by omega)]; rfl
      · rename_i h2; rw [decide_eq_true (by omega)]; rfl
theorem onlyNameBytes_eq (s : List UInt8) (hs : s.length ≤ 9223372036854775807) : F_impl_onlyNameBytes s = some (s.all nb) := by
  unfold F_impl_onlyNameBytes
  refine loop_all nb hs ?_ ?_
  · intro i k a ha hi
    simp only [F_impl_onlyNameBytes_l0, int_lt (get_lt ha), ix_get ha, Option.bind_some, bif_t, w64_succ hi, bif_dec, nb]
    repeat' split
    all_goals first | rfl | (exfalso; omega)
  · intro k; simp [F_impl_onlyNameBytes_l0]
theorem IsName_eq (s : List UInt8) (hs : s.length ≤ 9223372036854775807) : F_impl_IsName s = some (nameOk s) := by
  unfold F_impl_IsName
  rw [onlyNameBytes_eq s hs]
  cases s with
  | nil => rfl
  | cons b t =>
    simp only [ix_zero, Option.bind_some, bif_dec, nameOk, lowHead]
    split
    · rename_i h; simp at h; omega
    · split
      · rename_i h; rw [decide_eq_false (by omega)]; rfl
      · rename_i h
        rw [decide_eq_true (by omega)]
        split
        · rename_i h2; rw [decide_eq_false (by omega)]; rfl
        · split
          · rename_i h2; rw [decide_eq_false (by omega)]; rfl
          · rw [decide_eq_true (by omega)]; rfl
end Go.Ab
/- Numbers within bounds (own text). -/
set_option linter.unusedVariables false
set_option linter.unusedSimpArgs false
namespace Go.Ab
open Go.RowKit
theorem l00In_eq (a b c : Int) : F_spec_l00In a b c = some (decide (b ≤ a ∧ a ≤ c)) := by
  unfold F_spec_l00In
  by_cases h : b ≤ a <;> simp [h]
theorem within_eq (a b c : Int) : F_impl_within a b c = some (decide (b ≤ a ∧ a ≤ c)) := by
  unfold F_impl_within
  by_cases h : b ≤ a <;> simp [h]
end Go.Ab
/- ValidMelody: the program's and the reference's (own text). -/
set_option linter.unusedVariables false
set_option linter.unusedSimpArgs false
namespace Go.Ab
open Go.RowKit Go.Proofs
def noteOk (x : TNote) : Bool := decide (-12 ≤ x.1 ∧ x.1 ≤ 23) && decide (1 ≤ x.2 ∧ x.2 ≤ 64)
def melOk (m : List TNote) : Bool := m.all noteOk && decide ((m.length : Int) ≤ 48)
theorem l09Ok_eq (m : List TNote) (h : m.length ≤ 9223372036854775807) : F_spec_l09Ok m = some (melOk m) := by
  unfold F_spec_l09Ok
  refine loop_sfx (L := m) (fun t => t.all noteOk && decide ((m.length : Int) ≤ 48)) h ?_ ?_
  · intro i k a t ha hi hk
    simp only [F_spec_l09Ok_l0, int_lt (get_lt ha), bif_t, ix_get ha, Option.bind_some, F_spec_l03Pitch, F_spec_l09Length, l00In_eq, w64_succ hi, hk, List.all_cons, noteOk]
    cases decide (-12 ≤ a.1 ∧ a.1 ≤ 23) <;> cases decide (1 ≤ a.2 ∧ a.2 ≤ 64) <;> rfl
  · intro k
    simp only [F_spec_l09Ok_l0, int_lt_self, bif_f, List.all_nil, Bool.true_and]
theorem ValidMelody_eq (m : List TNote) (h : m.length ≤ 9223372036854775807) : F_impl_ValidMelody m = some (melOk m) := by
  unfold F_impl_ValidMelody
  rw [bif_dec]
  split
  · rename_i hc
    have : decide ((m.length : Int) ≤ 48) = false := decide_eq_false (by omega)
    simp [melOk, this]
  · rename_i hc
    have : decide ((m.length : Int) ≤ 48) = true := decide_eq_true (by omega)
    rw [melOk, this, Bool.and_true]
    refine loop_sfx (L := m) (fun t => t.all noteOk) h ?_ ?_
    · intro i k a t ha hi hk
      simp only [F_impl_ValidMelody_l0, int_lt (get_lt ha), bif_t, ix_get ha, Option.bind_some, F_impl_pitchOk, F_impl_lengthOk, within_eq, w64_succ hi, hk, List.all_cons, noteOk]
      cases decide (-12 ≤ a.1 ∧ a.1 ≤ 23) <;> cases decide (1 ≤ a.2 ∧ a.2 ≤ 64) <;> rfl
    · intro k
      simp only [F_impl_ValidMelody_l0, int_lt_self, bif_f, List.all_nil]
end Go.Ab
/- ValidLibrary: the program's and the reference's (own text). -/
set_option linter.unusedVariables false
set_option linter.unusedSimpArgs false
namespace Go.Ab
open Go.RowKit Go.Proofs
def lib : Option (List UInt8) → List TNamedMelody → Bool
  | _, [] => true
  | none, x :: t => nameOk x.1 && (melOk x.2 && lib (some x.1) t)
  | some q, x :: t => nameOk x.1 && (melOk x.2 && (Op.bytesLess q x.1 && lib (some x.1) t))
def prevM (A : List TNamedMelody) : Nat → Option (List UInt8)
  | 0 => none
  | n + 1 => (A[n]?).map (·.1)
def libOk (A : List TNamedMelody) : Bool := lib none A && decide ((A.length : Int) ≤ 12)
theorem int_pos (n : Nat) : decide ((0 : Int) < ((n + 1 : Nat) : Int)) = true := decide_eq_true (by omega)
theorem l29Library_eq (A : List TNamedMelody) (oA : (OkL OkNamedMelody) A) : F_spec_l29Library A = some (libOk A) := by
  unfold F_spec_l29Library
  rw [loop_at (L := A) (fun i => lib (prevM A i) (A.drop i) && decide ((A.length : Int) ≤ 12)) oA.1]
  · rfl
  · intro i k a ha hi hk
    have o := oA.2 a (get_mem ha)
    have hp : prevM A (i + 1) = some a.1 := by simp [prevM, ha]
    rw [hp] at hk
    rw [drop_cons ha]
    simp only [F_spec_l29Library_l0, int_lt (get_lt ha), bif_t, ix_get ha, Option.bind_some, l01Name_eq a.1 o.1, l09Ok_eq a.2 o.2.1, w64_succ hi, hk]
    cases i with
    | zero =>
      simp only [prevM, lib, Int.ofNat_zero, Int.natCast_zero, Int.lt_irrefl, decide_false, bif_f]
      cases nameOk a.1 <;> cases melOk a.2 <;> rfl
    | succ n =>
      obtain ⟨b, hb⟩ := get_some (L := A) (n := n) (by have := get_lt ha; omega)
      simp only [prevM, hb, Option.map_some, lib, int_pos, bif_t, w64_pred (by omega : n < 9223372036854775807), ix_get hb, ix_get ha, Option.bind_some]
      cases nameOk a.1 <;> cases melOk a.2 <;> cases Op.bytesLess b.1 a.1 <;> rfl
  · intro k
    simp only [F_spec_l29Library_l0, int_lt_self, bif_f, List.drop_length]
    cases prevM A A.length <;> simp [lib]
theorem ValidLibrary_eq (A : List TNamedMelody) (oA : (OkL OkNamedMelody) A) : F_impl_ValidLibrary A = some (libOk A) := by
  unfold F_impl_ValidLibrary
  rw [bif_dec]
  split
  · rename_i hc
    have : decide ((A.length : Int) ≤ 12) = false := decide_eq_false (by omega)
    simp [libOk, this]
  · rename_i hc
    have : decide ((A.length : Int) ≤ 12) = true := decide_eq_true (by omega)
    rw [libOk, this, Bool.and_true]
    rw [loop_at (L := A) (fun i => lib (prevM A i) (A.drop i)) oA.1]
    · rfl
    · intro i k a ha hi hk
      have o := oA.2 a (get_mem ha)
      have hp : prevM A (i + 1) = some a.1 := by simp [prevM, ha]
      rw [hp] at hk
      rw [drop_cons ha]
      simp only [F_impl_ValidLibrary_l0, int_lt (get_lt ha), bif_t, ix_get ha, Option.bind_some, IsName_eq a.1 o.1, ValidMelody_eq a.2 o.2.1, w64_succ hi, hk]
      cases i with
      | zero =>
        simp only [prevM, lib, Int.ofNat_zero, Int.natCast_zero, Int.lt_irrefl, decide_false, bif_f]
        cases nameOk a.1 <;> cases melOk a.2 <;> rfl
      | succ n =>
        obtain ⟨b, hb⟩ := get_some (L := A) (n := n) (by have := get_lt ha; omega)
        simp only [prevM, hb, Option.map_some, lib, int_pos, bif_t, w64_pred (by omega : n < 9223372036854775807), ix_get hb, ix_get ha, Option.bind_some, ← bytes_not (a := b.1) (b := a.1)]
        cases nameOk a.1 <;> cases melOk a.2 <;> cases Op.bytesLess b.1 a.1 <;> rfl
    · intro k
      simp only [F_impl_ValidLibrary_l0, int_lt_self, bif_f, List.drop_length]
      cases prevM A A.length <;> simp [lib]
end Go.Ab
/- Digits (own text). -/
set_option linter.unusedVariables false
set_option linter.unusedSimpArgs false
namespace Go.Ab
open Go.RowKit
open Go.Lib (itoa decDigits)
theorem dig_len : ∀ (k u : Nat), u < 10 ^ (k + 1) → (decDigits u).length ≤ k + 1
  | 0, u, h => by rw [decDigits, dif_pos (by simpa using h)]; simp
  | k + 1, u, h => by
    rw [decDigits]
    split
    · simp
    · have := dig_len k (u / 10) (by rw [Nat.pow_succ] at h; omega)
      rw [List.length_append, List.length_singleton]; omega
/-- The digits, none for 0. -/
def dg0 (u : Nat) : List UInt8 := if u = 0 then [] else decDigits u
theorem dg0_step {u : Nat} (h : u ≠ 0) : dg0 u = dg0 (u / 10) ++ [UInt8.ofNat (48 + u % 10)] := by
  unfold dg0
  rw [if_neg h, decDigits]
  by_cases h1 : u < 10
  · rw [dif_pos h1, if_pos (by omega), Nat.mod_eq_of_lt h1]; rfl
  · rw [dif_neg h1, if_neg (by omega)]
end Go.Ab
/- The reference's numerals (own text). -/
set_option linter.unusedVariables false
set_option linter.unusedSimpArgs false
namespace Go.Ab
open Go.RowKit
open Go.Lib (itoa decDigits)
theorem rev_loop (L : List Int) (hL : L.length ≤ 1000) : F_spec_l01Dec_j2 L = some (bytesI L.reverse) := by
  unfold F_spec_l01Dec_j2
  have key : ∀ (m : Nat) (acc : List Int) (n : Nat), m ≤ L.length → m < n → acc = (L.drop m).reverse → iter (F_spec_l01Dec_l3 L) n ((m : Int) - 1, acc) = some (bytesI L.reverse) := by
    intro m
    induction m with
    | zero =>
      intro acc n _ hn ha
      obtain ⟨n, rfl⟩ : ∃ n', n = n' + 1 := ⟨n - 1, by omega⟩
      show F_spec_l01Dec_l3 L (iter (F_spec_l01Dec_l3 L) n) _ = _
      simp only [F_spec_l01Dec_l3]
      rw [decide_eq_false (by omega), bif_f, ha]
      rfl
    | succ m ih =>
      intro acc n hm hn ha
      obtain ⟨n, rfl⟩ : ∃ n', n = n' + 1 := ⟨n - 1, by omega⟩
      show F_spec_l01Dec_l3 L (iter (F_spec_l01Dec_l3 L) n) _ = _
      obtain ⟨x, hx⟩ := get_some (L := L) (n := m) (by omega)
      have e1 : ((m + 1 : Nat) : Int) - 1 = (m : Int) := by omega
      have hl : acc.length ≤ 1000 := by rw [ha]; simp; omega
      simp only [F_spec_l01Dec_l3, e1]
      rw [decide_eq_true (by omega), bif_t, ix_get hx, Option.bind_some, need_true (p := room (acc.length + [x].length) 1) (show room (acc.length + 1) 1 from ⟨by omega, by omega⟩), w64_id (by omega)]
      refine ih _ n (by omega) (by omega) ?_
      rw [ha, drop_cons hx]; simp
  have hw : w64 ((L.length : Int) - 1) = (L.length : Int) - 1 := w64_id (by omega)
  rw [hw]
  exact key L.length [] lim (Nat.le_refl _) (lt_lim (by omega)) (by simp)
theorem l01Dec_eq (n : Int) (h : -9223372036854775808 ≤ n ∧ n ≤ 9223372036854775807) : F_spec_l01Dec n = some (itoa n) := by
  unfold F_spec_l01Dec
  by_cases h0 : n = 0
  · subst h0; rw [decide_eq_true rfl, bif_t]; unfold itoa; rw [if_neg (by omega), decDigits, dif_pos (by decide)]; rfl
  rw [decide_eq_false h0, bif_f]
  suffices H : ∃ r, loop (F_spec_l01Dec_l0 n) (n, []) = some r ∧ r = itoa n by
    obtain ⟨r, e, hr⟩ := H
    rw [e, hr]
  refine loop_mu (fun s => (-9223372036854775808 ≤ s.1 ∧ s.1 ≤ 9223372036854775807) ∧ (s.1 ≠ 0 → (s.1 < 0 ↔ n < 0)) ∧ s.1.natAbs * 10 ^ s.2.length ≤ n.natAbs ∧ s.2.length ≤ 19 ∧ dg0 n.natAbs = dg0 s.1.natAbs ++ bytesI s.2.reverse)
    (fun s => s.1.natAbs) ⟨h, fun _ => Iff.rfl, by simp, by simp, by simp [bytesI]⟩ (by show n.natAbs < lim; unfold lim; omega) ?_
  rintro ⟨v, L⟩ k ⟨hv, hsg, hp, hl, hd⟩ hk
  dsimp only at hv hsg hp hl hd hk
  simp only [F_spec_l01Dec_l0]
  by_cases hz : v = 0
  · subst hz
    rw [decide_eq_false (by simp), bif_f]
    have hd' : decDigits n.natAbs = bytesI L.reverse := by
      have : dg0 n.natAbs = decDigits n.natAbs := if_neg (by omega)
      rw [← this, hd]; simp [dg0]
    by_cases hn : n < 0
    · rw [decide_eq_true hn, bif_t, need_true (p := room (L.length + [(45 : Int)].length) 1) (show room (L.length + 1) 1 from ⟨by omega, by omega⟩), rev_loop _ (by simp; omega)]
      refine ⟨_, rfl, ?_⟩
      unfold itoa
      rw [if_pos hn, hd']
      simp [bytesI]
    · rw [decide_eq_false hn, bif_f, rev_loop _ (by omega)]
      refine ⟨_, rfl, ?_⟩
      unfold itoa
      rw [if_neg hn, show n.toNat = n.natAbs by omega, hd']
  · rw [decide_eq_true hz, bif_t]
    obtain ⟨q1, q2⟩ : Int.tdiv v 10 = (if v < 0 then -((-v) / 10) else v / 10) ∧ Int.tmod v 10 = (if v < 0 then -((-v) % 10) else v % 10) := by
      split
      · rename_i hv
        obtain ⟨u, rfl⟩ : ∃ u : Int, v = -u := ⟨-v, by omega⟩
        rw [Int.neg_tdiv, Int.neg_tmod, Int.tdiv_eq_ediv_of_nonneg (by omega), Int.tmod_eq_emod_of_nonneg (by omega), Int.neg_neg]
        exact ⟨rfl, rfl⟩
      · rw [Int.tdiv_eq_ediv_of_nonneg (by omega), Int.tmod_eq_emod_of_nonneg (by omega)]
        exact ⟨rfl, rfl⟩
    have ht : w64 (Int.tdiv v 10) = Int.tdiv v 10 := w64_id (by omega)
    have htn : (Int.tdiv v 10).natAbs = v.natAbs / 10 := by omega
    have hl2 : L.length + 1 ≤ 19 := by
      by_cases h19 : L.length = 19
      · rw [h19] at hp
        have : 1 ≤ v.natAbs := by omega
        have h2 : 1 * 10 ^ 19 ≤ v.natAbs * 10 ^ 19 := Nat.mul_le_mul_right _ this
        have h3 : n.natAbs ≤ 9223372036854775808 := by omega
        omega
      · omega
    have key : ∀ d : Int, d = (v.natAbs % 10 : Nat) → ∃ r, F_spec_l01Dec_j1 v L k d = some r ∧ r = itoa n := by
      rintro d rfl
      unfold F_spec_l01Dec_j1
      have e1 : IntKind.wrap .u8 (w64 (48 + ((v.natAbs % 10 : Nat) : Int))) = ((48 + v.natAbs % 10 : Nat) : Int) := by
        rw [w64_id (by omega)]
        simp only [IntKind.wrap, IntKind.signed, IntKind.bits]
        have : ((48 + ((v.natAbs % 10 : Nat) : Int)) % 2 ^ 8) = 48 + ((v.natAbs % 10 : Nat) : Int) := Int.emod_eq_of_lt (by omega) (by omega)
        simp [this]
        try omega
      rw [e1, ht, need_true (p := room (L.length + [((48 + v.natAbs % 10 : Nat) : Int)].length) 1) (show room (L.length + 1) 1 from ⟨by omega, by omega⟩)]
      refine hk _ ⟨?_, ?_, ?_, ?_, ?_⟩ ?_
      · dsimp only; omega
      · dsimp only; intro hne; have := hsg hz; rw [← this]; omega
      · dsimp only
        rw [htn, List.length_append, List.length_singleton, Nat.pow_succ]
        refine Nat.le_trans ?_ hp
        rw [Nat.mul_comm (10 ^ L.length) 10, ← Nat.mul_assoc]
        exact Nat.mul_le_mul_right _ (Nat.div_mul_le_self _ _)
      · simp; omega
      · dsimp only
        rw [hd, htn, dg0_step (by omega : v.natAbs ≠ 0)]
        simp only [bytesI, List.reverse_append, List.reverse_singleton, List.singleton_append, List.map_cons, Int.toNat_natCast, List.append_assoc]
      · dsimp only; rw [htn]; omega
    have hm : (Int.tmod v 10).natAbs = v.natAbs % 10 := by omega
    by_cases hneg : Int.tmod v 10 < 0
    · rw [decide_eq_true hneg, bif_t]
      exact key _ (by rw [w64_id (by omega)]; omega)
    · rw [decide_eq_false hneg, bif_f]
      exact key _ (by omega)
end Go.Ab
/- Melodies as text (own text). -/
set_option linter.unusedVariables false
set_option linter.unusedSimpArgs false
namespace Go.Ab
open Go.RowKit
open Go.Lib (itoa decDigits join)
theorem tail_len (m : Nat) (sep : List UInt8) : ∀ L : List (List UInt8), (∀ x ∈ L, x.length ≤ m) → (Go.Lib.joinTail sep L).length ≤ L.length * (m + sep.length)
  | [], _ => by simp [Go.Lib.joinTail]
  | x :: L, h => by
    have ih := tail_len m sep L (fun y hy => h y (by simp [hy]))
    have hx := h x (by simp)
    simp only [Go.Lib.joinTail, List.map_cons, List.flatten_cons, List.length_append, List.length_cons, Nat.add_mul, Nat.one_mul] at ih ⊢
    omega
theorem join_len (m : Nat) (sep : List UInt8) (L : List (List UInt8)) (h : ∀ x ∈ L, x.length ≤ m) : (join L sep).length ≤ (L.length + 1) * (m + sep.length) := by
  cases L with
  | nil => simp [Go.Lib.join_nil]
  | cons x L =>
    have hx := h x (by simp)
    have := tail_len m sep L (fun y hy => h y (by simp [hy]))
    rw [Go.Lib.join_cons, List.length_append, List.length_cons]
    have e : (L.length + 1 + 1) * (m + sep.length) = L.length * (m + sep.length) + (m + sep.length) + (m + sep.length) := by simp only [Nat.add_mul, Nat.one_mul]
    omega
theorem join_snoc {L : List (List UInt8)} (h : L ≠ []) (x sep : List UInt8) : join (L ++ [x]) sep = (join L sep ++ sep) ++ x := by
  cases L with
  | nil => exact absurd rfl h
  | cons y L => simp [Go.Lib.join_cons, Go.Lib.joinTail, List.append_assoc]
theorem Decimal_eq {n : Int} (h : -9223372036854775808 ≤ n ∧ n ≤ 9223372036854775807) : F_impl_Decimal n = some (itoa n) := by
  unfold F_impl_Decimal F_formatInt
  rw [need_true ⟨by decide, h.1, h.2⟩]; rfl
/-- A tone's name, with its octave. -/
noncomputable def pn (p : Int) : List UInt8 := (F_impl_pitchText p).getD []
theorem pitch_all : ∀ k : Fin 36, F_spec_l09Name ((k.val : Int) - 12) = F_impl_pitchText ((k.val : Int) - 12) ∧ (F_impl_pitchText ((k.val : Int) - 12)).isSome = true ∧ ((F_impl_pitchText ((k.val : Int) - 12)).getD []).length ≤ 2 := by decide +kernel
theorem pitch_eq {p : Int} (h : -12 ≤ p ∧ p ≤ 23) : F_spec_l09Name p = some (pn p) ∧ F_impl_pitchText p = some (pn p) ∧ (pn p).length ≤ 2 := by
  obtain ⟨h1, h2, h3⟩ := pitch_all ⟨(p + 12).toNat, by omega⟩
  have e : (((⟨(p + 12).toNat, by omega⟩ : Fin 36).val : Int) - 12) = p := by show ((p + 12).toNat : Int) - 12 = p; omega
  rw [e] at h1 h2 h3
  obtain ⟨r, hr⟩ := Option.isSome_iff_exists.1 h2
  have hp : pn p = r := by unfold pn; rw [hr]; rfl
  rw [h1, hr, hp]
  rw [hr] at h3
  exact ⟨rfl, rfl, h3⟩
noncomputable def noteT (x : TNote) : List UInt8 := pn x.1 ++ if x.2 ≠ 1 then itoa x.2 else []
noncomputable def melT (m : List TNote) : List UInt8 := if m.length = 0 then [45] else join (m.map noteT) [32]
theorem len_itoa {n : Int} (h : 1 ≤ n ∧ n ≤ 64) : (itoa n).length ≤ 2 := by
  unfold itoa
  rw [if_neg (by omega)]
  exact dig_len 1 _ (by omega)
theorem note_ok {x : TNote} (h : noteOk x = true) : (-12 ≤ x.1 ∧ x.1 ≤ 23) ∧ (1 ≤ x.2 ∧ x.2 ≤ 64) := by
  unfold noteOk at h
  simpa using h
theorem note_len {x : TNote} (h : noteOk x = true) : (noteT x).length ≤ 4 := by
  obtain ⟨h1, h2⟩ := note_ok h
  have := (pitch_eq h1).2.2
  have := len_itoa h2
  unfold noteT
  rw [List.length_append]
  split
  · omega
  · simp; omega
theorem mel_ok {m : List TNote} (h : melOk m = true) : (∀ x ∈ m, noteOk x = true) ∧ m.length ≤ 48 := by
  unfold melOk at h
  rw [Bool.and_eq_true] at h
  have := of_decide_eq_true h.2
  exact ⟨fun x hx => List.all_eq_true.1 h.1 x hx, by omega⟩
theorem texts_len {m : List TNote} (h : melOk m = true) (n : Nat) : (join ((m.take n).map noteT) [32]).length ≤ 1000 := by
  obtain ⟨h1, h2⟩ := mel_ok h
  have := join_len 4 [32] ((m.take n).map noteT) (by
    intro y hy
    obtain ⟨x, hx, rfl⟩ := List.mem_map.1 hy
    exact note_len (h1 x (List.mem_of_mem_take hx)))
  rw [List.length_map, List.length_take] at this
  have h3 : (min n m.length + 1) * (4 + [(32 : UInt8)].length) ≤ 49 * 5 := Nat.mul_le_mul (by omega) (by decide)
  omega
theorem l09Text_eq (m : List TNote) (h : melOk m = true) : F_spec_l09Text m = some (melT m) := by
  obtain ⟨hn, hl⟩ := mel_ok h
  unfold F_spec_l09Text melT
  by_cases h0 : m.length = 0
  · rw [decide_eq_true (by omega), bif_t, if_pos h0]
  rw [decide_eq_false (by omega), bif_f, if_neg h0]
  suffices H : ∃ r, loop (F_spec_l09Text_l0 m) ([], 0) = some r ∧ r = join (m.map noteT) [32] by
    obtain ⟨r, e, hr⟩ := H
    rw [e, hr]
  refine loop_ex (L := m) (fun i st => st.2 = (i : Int) ∧ st.1 = join ((m.take i).map noteT) [32]) (by omega) ⟨rfl, rfl⟩ ?_ ?_
  · rintro i ⟨out, j⟩ k x hx hi ⟨rfl, hout⟩ hk
    dsimp only at hout
    subst hout
    have hb := texts_len h i
    have hxo := note_ok (hn x (get_mem hx))
    obtain ⟨p1, p2, p3⟩ := pitch_eq hxo.1
    have h2 := len_itoa hxo.2
    have go : ∀ out : List UInt8, out.length ≤ 1001 → out ++ noteT x = join ((m.take (i + 1)).map noteT) [32] → ∃ r, F_spec_l09Text_j1 m (i : Int) k out = some r ∧ r = join (m.map noteT) [32] := by
      intro out ho he
      unfold F_spec_l09Text_j1
      simp only [ix_get hx, Option.bind_some, p1, w64_succ hi, bif_dec]
      rw [need_true (by omega)]
      have hT : noteT x = pn x.1 ++ if x.2 ≠ 1 then itoa x.2 else [] := rfl
      rw [hT] at he
      by_cases hone : x.2 ≠ 1
      · rw [if_pos hone] at he ⊢
        rw [l01Dec_eq _ (by omega), Option.bind_some, need_true (by rw [List.length_append]; omega)]
        exact hk _ ⟨rfl, by dsimp only; rw [← he, List.append_assoc]⟩
      · rw [if_neg hone] at he ⊢
        exact hk _ ⟨rfl, by dsimp only; rw [← he, List.append_nil]⟩
    simp only [F_spec_l09Text_l0, int_lt (get_lt hx), bif_t]
    by_cases hi0 : i = 0
    · subst hi0
      rw [show decide ((0 : Int) < ((0 : Nat) : Int)) = false from rfl, bif_f]
      refine go _ (by omega) ?_
      rw [take_succ hx]
      simp [Go.Lib.join_one, Go.Lib.join_nil]
    · rw [decide_eq_true (by omega), bif_t, need_true (by rw [List.length_singleton]; omega)]
      refine go _ (by rw [List.length_append, List.length_singleton]; omega) ?_
      rw [take_succ hx, List.map_append, List.map_singleton, join_snoc]
      intro e
      have h1 := congrArg List.length e
      rw [List.length_map, List.length_take, List.length_nil] at h1
      have h2 := get_lt hx
      omega
  · rintro ⟨out, j⟩ k ⟨rfl, hout⟩
    dsimp only at hout
    rw [take_all (Nat.le_refl _)] at hout
    simp only [F_spec_l09Text_l0, int_lt_self, bif_f]
    exact ⟨_, rfl, hout⟩
theorem MelodyText_eq (m : List TNote) (h : melOk m = true) : F_impl_MelodyText m = some (melT m) := by
  obtain ⟨hn, hl⟩ := mel_ok h
  unfold F_impl_MelodyText melT
  rw [ValidMelody_eq m (by omega), h, Option.bind_some, Bool.not_true, bif_f]
  by_cases h0 : m.length = 0
  · rw [decide_eq_true (by omega), bif_t, if_pos h0]
  rw [decide_eq_false (by omega), bif_f, if_neg h0]
  suffices H : ∃ r, loop (F_impl_MelodyText_l0 m) (0, []) = some r ∧ r = join (m.map noteT) [32] by
    obtain ⟨r, e, hr⟩ := H
    rw [e, hr]
  refine loop_ex (L := m) (fun i st => st.1 = (i : Int) ∧ st.2 = (m.take i).map noteT) (by omega) ⟨rfl, rfl⟩ ?_ ?_
  · rintro i ⟨j, out⟩ k x hx hi ⟨rfl, hout⟩ hk
    dsimp only at hout
    subst hout
    have hxo := note_ok (hn x (get_mem hx))
    obtain ⟨p1, p2, p3⟩ := pitch_eq hxo.1
    have h2 := len_itoa hxo.2
    have hr : ∀ y : List UInt8, room (((m.take i).map noteT).length + [y].length) 16 := by
      intro y
      rw [List.length_map, List.length_take]
      show room (min i m.length + 1) 16
      exact ⟨by omega, by omega⟩
    simp only [F_impl_MelodyText_l0, int_lt (get_lt hx), ix_get hx, Option.bind_some, bif_t, p2, w64_succ hi, bif_dec]
    have hst : (m.take (i + 1)).map noteT = (m.take i).map noteT ++ [noteT x] := by rw [take_succ hx, List.map_append]; rfl
    by_cases hone : x.2 ≠ 1
    · rw [if_pos hone, Decimal_eq (by omega), Option.bind_some, need_true (by omega), need_true (hr _)]
      exact hk _ ⟨rfl, by dsimp only; rw [hst]; unfold noteT; rw [if_pos hone]⟩
    · rw [if_neg hone, need_true (hr _)]
      exact hk _ ⟨rfl, by dsimp only; rw [hst]; unfold noteT; rw [if_neg hone, List.append_nil]⟩
  · rintro ⟨j, out⟩ k ⟨rfl, hout⟩
    dsimp only at hout
    rw [take_all (Nat.le_refl _)] at hout
    subst hout
    simp only [F_impl_MelodyText_l0, int_lt_self, bif_f]
    have := texts_len h m.length
    rw [take_all (Nat.le_refl _)] at this
    unfold F_join
    rw [need_true ⟨by rw [List.length_map]; omega, by omega⟩]
    exact ⟨_, rfl, rfl⟩
end Go.Ab
/- BlocksOfLibrary (own text). -/
set_option linter.unusedVariables false
set_option linter.unusedSimpArgs false
namespace Go.Ab
open Go.RowKit Go.Proofs
theorem lib_mel : ∀ {A : List TNamedMelody} {p : Option (List UInt8)}, lib p A = true → ∀ x ∈ A, melOk x.2 = true
  | [], _, _, x, hx => by cases hx
  | a :: A, p, h, x, hx => by
    have key : melOk a.2 = true ∧ lib (some a.1) A = true := by
      cases p with
      | none => simp only [lib, Bool.and_eq_true] at h; exact ⟨h.2.1, h.2.2⟩
      | some q => simp only [lib, Bool.and_eq_true] at h; exact ⟨h.2.1, h.2.2.2⟩
    rcases List.mem_cons.1 hx with rfl | hx
    · exact key.1
    · exact lib_mel key.2 x hx
noncomputable def melB (x : TNamedMelody) : TBlock := ([109, 101, 108, 111, 100, 121], x.1, melT x.2)
theorem room48 {L : List TBlock} {b : TBlock} (h : L.length ≤ 1000) : room (L.length + ([b] : List TBlock).length) 48 := by
  show room (L.length + 1) 48
  exact ⟨by omega, by omega⟩
theorem core_BlocksOfLibrary (A : List TNamedMelody) (oA : (OkL OkNamedMelody) A) (sA : (SmL SmNamedMelody) A) :
    ∃ w, F_spec_BlocksOfLibrary A = some w ∧ F_impl_BlocksOfLibrary A = some w ∧ (SmL CtBlock) w.1 := by
  unfold F_spec_BlocksOfLibrary F_impl_BlocksOfLibrary
  rw [l29Library_eq A oA, ValidLibrary_eq A oA, Option.bind_some, Option.bind_some]
  cases h : libOk A
  · refine ⟨([], 1), rfl, rfl, ?_, fun _ h => by cases h⟩
    show ((0 : Nat) : Int) ≤ 1048576
    omega
  · rw [Bool.not_true, bif_f, bif_f]
    unfold libOk at h
    rw [Bool.and_eq_true] at h
    have hl := of_decide_eq_true h.2
    have hm := lib_mel h.1
    refine ⟨(A.map melB, 0), ?_, ?_, ?_⟩
    · suffices H : ∃ r, loop (F_spec_BlocksOfLibrary_l0 A) (0, []) = some r ∧ r = (A.map melB, (0 : Int)) by
        obtain ⟨r, e, hr⟩ := H
        rw [e, hr]
      refine loop_ex (L := A) (fun i st => st.1 = (i : Int) ∧ st.2 = (A.take i).map melB) (by omega) ⟨rfl, rfl⟩ ?_ ?_
      · rintro i ⟨j, out⟩ k x hx hi ⟨rfl, hout⟩ hk
        dsimp only at hout
        subst hout
        simp only [F_spec_BlocksOfLibrary_l0, int_lt (get_lt hx), ix_get hx, Option.bind_some, bif_t, l09Text_eq _ (hm x (get_mem hx)), w64_succ hi]
        rw [need_true (room48 (by rw [List.length_map, List.length_take]; omega))]
        exact hk _ ⟨rfl, by dsimp only; rw [take_succ hx, List.map_append]; rfl⟩
      · rintro ⟨j, out⟩ k ⟨rfl, hout⟩
        dsimp only at hout
        rw [take_all (Nat.le_refl _)] at hout
        simp only [F_spec_BlocksOfLibrary_l0, int_lt_self, bif_f]
        exact ⟨_, rfl, by rw [hout]⟩
    · suffices H : ∃ r, loop (F_impl_BlocksOfLibrary_l0 A) (0, []) = some r ∧ r = (A.map melB, (0 : Int)) by
        obtain ⟨r, e, hr⟩ := H
        rw [e, hr]
      refine loop_ex (L := A) (fun i st => st.1 = (i : Int) ∧ st.2 = (A.take i).map melB) (by omega) ⟨rfl, rfl⟩ ?_ ?_
      · rintro i ⟨j, out⟩ k x hx hi ⟨rfl, hout⟩ hk
        dsimp only at hout
        subst hout
        simp only [F_impl_BlocksOfLibrary_l0, int_lt (get_lt hx), ix_get hx, Option.bind_some, bif_t, MelodyText_eq _ (hm x (get_mem hx)), w64_succ hi]
        rw [need_true (room48 (by rw [List.length_map, List.length_take]; omega))]
        exact hk _ ⟨rfl, by dsimp only; rw [take_succ hx, List.map_append]; rfl⟩
      · rintro ⟨j, out⟩ k ⟨rfl, hout⟩
        dsimp only at hout
        rw [take_all (Nat.le_refl _)] at hout
        simp only [F_impl_BlocksOfLibrary_l0, int_lt_self, bif_f]
        exact ⟨_, rfl, by rw [hout]⟩
    · exact ⟨by rw [List.length_map]; omega, fun _ _ => ⟨trivial, trivial, trivial⟩⟩
end Go.Ab
