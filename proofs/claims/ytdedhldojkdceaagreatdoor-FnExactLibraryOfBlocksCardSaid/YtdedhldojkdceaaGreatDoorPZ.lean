/- Own texts, merged: PNames PWithin PMelody PDig PMelTA PSpl PSpT PNum PNumS PSpM PRdN PRdM PBlock PBlC PBlocks PBl PLob. -/
import Derived.Test.YtdedhldojkdceaaGreatDoorPS
import Derived.Test.YtdedhldojkdceaaGreatDoorPL
import Derived.Lib.ItoaNum
import Derived.Test.YtdedhldojkdceaaGreatDoorGT
import Derived.KernelRfl
import Derived.Lib.SplitLaws
/- Names (own text). -/
set_option linter.unusedVariables false
set_option linter.unusedSimpArgs false
namespace Go.Ab
open Go.RowKit

/-- A byte of a name. -/
def nb (b : UInt8) : Bool := decide ((97 ≤ b.toNat ∧ b.toNat ≤ 122) ∨ (48 ≤ b.toNat ∧ b.toNat ≤ 57))
def lowHead : List UInt8 → Bool
  | [] => false
  | b :: _ => decide (97 ≤ b.toNat ∧ b.toNat ≤ 122)
/-- A name. -/
def nameOk (s : List UInt8) : Bool := decide (s.length ≤ 10) && (lowHead s && s.all nb)
theorem l01Small_eq (c : Int) : F_spec_l01Small c = some (decide (97 ≤ c ∧ c ≤ 122)) := by
  unfold F_spec_l01Small
  by_cases h : 97 ≤ c <;> simp [h]
theorem l01Digit_eq (c : Int) : F_spec_l01Digit c = some (decide (48 ≤ c ∧ c ≤ 57)) := by
  unfold F_spec_l01Digit
  by_cases h : 48 ≤ c <;> simp [h]
theorem l01Name_eq (s : List UInt8) (hs : s.length ≤ 9223372036854775807) : F_spec_l01Name s = some (nameOk s) := by
  unfold F_spec_l01Name
  cases s with
  | nil => rfl
  | cons b t =>
    have e : loop (F_spec_l01Name_l0 (b :: t)) 0 = some ((b :: t).all nb) := by
      refine loop_all nb hs ?_ ?_
      · intro i k a ha hi
        simp only [F_spec_l01Name_l0, int_lt (get_lt ha), ix_get ha, Option.bind_some, bif_t, l01Small_eq, l01Digit_eq, w64_succ hi, ← decide_not, bif_dec, nb]
        repeat' split
        all_goals first | rfl | (exfalso; omega)
      · intro k; simp [F_spec_l01Name_l0]
    rw [e]
    simp only [reduceCtorEq, decide_false, bif_f, ix_zero, Option.bind_some, l01Small_eq, ← decide_not, bif_dec, nameOk, lowHead]
    split
    · rename_i h; rw [decide_eq_false (by omega)]; rfl
    · rename_i h
      rw [decide_eq_true (by omega)]
      split
      · rename_i h2; rw [decide_eq_false (by omega)]; rfl
      · rename_i h2; rw [decide_eq_true (by omega)]; rfl
theorem onlyNameBytes_eq (s : List UInt8) (hs : s.length ≤ 9223372036854775807) : F_impl_onlyNameBytes s = some (s.all nb) := by
  unfold F_impl_onlyNameBytes
  refine loop_all nb hs ?_ ?_
  · intro i k a ha hi
    simp only [F_impl_onlyNameBytes_l0, int_lt (get_lt ha), ix_get ha, Option.bind_some, bif_t, w64_succ hi, bif_dec, nb]
    repeat' split
    all_goals first | rfl | (exfalso; omega)
  · intro k; simp [F_impl_onlyNameBytes_l0]
theorem IsName_eq (s : List UInt8) (hs : s.length ≤ 9223372036854775807) : F_impl_IsName s = some (nameOk s) := by
  unfold F_impl_IsName
  rw [onlyNameBytes_eq s hs]
  cases s with
  | nil => rfl
  | cons b t =>
    simp only [ix_zero, Option.bind_some, bif_dec, nameOk, lowHead]
    split
    · rename_i h; simp at h; omega
    · split
      · rename_i h; rw [decide_eq_false (by omega)]; rfl
      · rename_i h
        rw [decide_eq_true (by omega)]
        split
        · rename_i h2; rw [decide_eq_false (by omega)]; rfl
        · split
          · rename_i h2; rw [decide_eq_false (by omega)]; rfl
          · rw [decide_eq_true (by omega)]; rfl
end Go.Ab
/- Numbers within bounds (own text). -/
set_option linter.unusedVariables false
set_option linter.unusedSimpArgs false
namespace Go.Ab
open Go.RowKit
theorem l00In_eq (a b c : Int) : F_spec_l00In a b c = some (decide (b ≤ a ∧ a ≤ c)) := by
  unfold F_spec_l00In
  by_cases h : b ≤ a <;> simp [h]
theorem within_eq (a b c : Int) : F_impl_within a b c = some (decide (b ≤ a ∧ a ≤ c)) := by
  unfold F_impl_within
  by_cases h : b ≤ a <;> simp [h]
end Go.Ab
/- ValidMelody: the program's and the reference's (own text). -/
set_option linter.unusedVariables false
set_option linter.unusedSimpArgs false
namespace Go.Ab
open Go.RowKit Go.Proofs
def noteOk (x : TNote) : Bool := decide (-12 ≤ x.1 ∧ x.1 ≤ 23) && decide (1 ≤ x.2 ∧ x.2 ≤ 64)
def melOk (m : List TNote) : Bool := m.all noteOk && decide ((m.length : Int) ≤ 48)
theorem l09Ok_eq (m : List TNote) (h : m.length ≤ 9223372036854775807) : F_spec_l09Ok m = some (melOk m) := by
  unfold F_spec_l09Ok
  refine loop_sfx (L := m) (fun t => t.all noteOk && decide ((m.length : Int) ≤ 48)) h ?_ ?_
  · intro i k a t ha hi hk
    simp only [F_spec_l09Ok_l0, int_lt (get_lt ha), bif_t, ix_get ha, Option.bind_some, F_spec_l03Pitch, F_spec_l09Length, l00In_eq, w64_succ hi, hk, List.all_cons, noteOk]
    cases decide (-12 ≤ a.1 ∧ a.1 ≤ 23) <;> cases decide (1 ≤ a.2 ∧ a.2 ≤ 64) <;> rfl
  · intro k
    simp only [F_spec_l09Ok_l0, int_lt_self, bif_f, List.all_nil, Bool.true_and]
theorem ValidMelody_eq (m : List TNote) (h : m.length ≤ 9223372036854775807) : F_impl_ValidMelody m = some (melOk m) := by
  unfold F_impl_ValidMelody
  rw [bif_dec]
  split
  · rename_i hc
    have : decide ((m.length : Int) ≤ 48) = false := decide_eq_false (by omega)
    simp [melOk, this]
  · rename_i hc
    have : decide ((m.length : Int) ≤ 48) = true := decide_eq_true (by omega)
    rw [melOk, this, Bool.and_true]
    refine loop_sfx (L := m) (fun t => t.all noteOk) h ?_ ?_
    · intro i k a t ha hi hk
      simp only [F_impl_ValidMelody_l0, int_lt (get_lt ha), bif_t, ix_get ha, Option.bind_some, F_impl_pitchOk, F_impl_lengthOk, within_eq, w64_succ hi, hk, List.all_cons, noteOk]
      cases decide (-12 ≤ a.1 ∧ a.1 ≤ 23) <;> cases decide (1 ≤ a.2 ∧ a.2 ≤ 64) <;> rfl
    · intro k
      simp only [F_impl_ValidMelody_l0, int_lt_self, bif_f, List.all_nil]
end Go.Ab
/- Digits (own text). -/
set_option linter.unusedVariables false
set_option linter.unusedSimpArgs false
namespace Go.Ab
open Go.RowKit
open Go.Lib (itoa decDigits)
theorem dig_len : ∀ (k u : Nat), u < 10 ^ (k + 1) → (decDigits u).length ≤ k + 1
  | 0, u, h => by rw [decDigits, dif_pos (by simpa using h)]; simp
  | k + 1, u, h => by
    rw [decDigits]
    split
    · simp
    · have := dig_len k (u / 10) (by rw [Nat.pow_succ] at h; omega)
      rw [List.length_append, List.length_singleton]; omega
/-- The digits, none for 0. -/
def dg0 (u : Nat) : List UInt8 := if u = 0 then [] else decDigits u
theorem dg0_step {u : Nat} (h : u ≠ 0) : dg0 u = dg0 (u / 10) ++ [UInt8.ofNat (48 + u % 10)] := by
  unfold dg0
  rw [if_neg h, decDigits]
  by_cases h1 : u < 10
  · rw [dif_pos h1, if_pos (by omega), Nat.mod_eq_of_lt h1]; rfl
  · rw [dif_neg h1, if_neg (by omega)]
end Go.Ab
/- Melodies as the program's text (own text). -/
set_option linter.unusedVariables false
set_option linter.unusedSimpArgs false
namespace Go.Ab
open Go.RowKit
open Go.Lib (itoa decDigits join)
theorem tail_len (m : Nat) (sep : List UInt8) : ∀ L : List (List UInt8), (∀ x ∈ L, x.length ≤ m) → (Go.Lib.joinTail sep L).length ≤ L.length * (m + sep.length)
  | [], _ => by simp [Go.Lib.joinTail]
  | x :: L, h => by
    have ih := tail_len m sep L (fun y hy => h y (by simp [hy]))
    have hx := h x (by simp)
    simp only [Go.Lib.joinTail, List.map_cons, List.flatten_cons, List.length_append, List.length_cons, Nat.add_mul, Nat.one_mul] at ih ⊢
    omega
theorem join_len (m : Nat) (sep : List UInt8) (L : List (List UInt8)) (h : ∀ x ∈ L, x.length ≤ m) : (join L sep).length ≤ (L.length + 1) * (m + sep.length) := by
  cases L with
  | nil => simp [Go.Lib.join_nil]
  | cons x L =>
    have hx := h x (by simp)
    have := tail_len m sep L (fun y hy => h y (by simp [hy]))
    rw [Go.Lib.join_cons, List.length_append, List.length_cons]
    have e : (L.length + 1 + 1) * (m + sep.length) = L.length * (m + sep.length) + (m + sep.length) + (m + sep.length) := by simp only [Nat.add_mul, Nat.one_mul]
    omega
theorem join_snoc {L : List (List UInt8)} (h : L ≠ []) (x sep : List UInt8) : join (L ++ [x]) sep = (join L sep ++ sep) ++ x := by
  cases L with
  | nil => exact absurd rfl h
  | cons y L => simp [Go.Lib.join_cons, Go.Lib.joinTail, List.append_assoc]
theorem Decimal_eq {n : Int} (h : -9223372036854775808 ≤ n ∧ n ≤ 9223372036854775807) : F_impl_Decimal n = some (itoa n) := by
  unfold F_impl_Decimal F_formatInt
  rw [need_true ⟨by decide, h.1, h.2⟩]; rfl
/-- A tone's name, with its octave. -/
noncomputable def pn (p : Int) : List UInt8 := (F_impl_pitchText p).getD []
theorem pitch_all : ∀ k : Fin 36, True ∧ (F_impl_pitchText ((k.val : Int) - 12)).isSome = true ∧ ((F_impl_pitchText ((k.val : Int) - 12)).getD []).length ≤ 2 := by decide +kernel
theorem pitch_eq {p : Int} (h : -12 ≤ p ∧ p ≤ 23) : True ∧ F_impl_pitchText p = some (pn p) ∧ (pn p).length ≤ 2 := by
  obtain ⟨h1, h2, h3⟩ := pitch_all ⟨(p + 12).toNat, by omega⟩
  have e : (((⟨(p + 12).toNat, by omega⟩ : Fin 36).val : Int) - 12) = p := by show ((p + 12).toNat : Int) - 12 = p; omega
  rw [e] at h2 h3
  obtain ⟨r, hr⟩ := Option.isSome_iff_exists.1 h2
  have hp : pn p = r := by unfold pn; rw [hr]; rfl
  rw [hr, hp]
  rw [hr] at h3
  exact ⟨trivial, rfl, h3⟩
noncomputable def noteT (x : TNote) : List UInt8 := pn x.1 ++ if x.2 ≠ 1 then itoa x.2 else []
noncomputable def melT (m : List TNote) : List UInt8 := if m.length = 0 then [45] else join (m.map noteT) [32]
theorem len_itoa {n : Int} (h : 1 ≤ n ∧ n ≤ 64) : (itoa n).length ≤ 2 := by
  unfold itoa
  rw [if_neg (by omega)]
  exact dig_len 1 _ (by omega)
theorem note_ok {x : TNote} (h : noteOk x = true) : (-12 ≤ x.1 ∧ x.1 ≤ 23) ∧ (1 ≤ x.2 ∧ x.2 ≤ 64) := by
  unfold noteOk at h
  simpa using h
theorem note_len {x : TNote} (h : noteOk x = true) : (noteT x).length ≤ 4 := by
  obtain ⟨h1, h2⟩ := note_ok h
  have := (pitch_eq h1).2.2
  have := len_itoa h2
  unfold noteT
  rw [List.length_append]
  split
  · omega
  · simp; omega
theorem mel_ok {m : List TNote} (h : melOk m = true) : (∀ x ∈ m, noteOk x = true) ∧ m.length ≤ 48 := by
  unfold melOk at h
  rw [Bool.and_eq_true] at h
  have := of_decide_eq_true h.2
  exact ⟨fun x hx => List.all_eq_true.1 h.1 x hx, by omega⟩
theorem texts_len {m : List TNote} (h : melOk m = true) (n : Nat) : (join ((m.take n).map noteT) [32]).length ≤ 1000 := by
  obtain ⟨h1, h2⟩ := mel_ok h
  have := join_len 4 [32] ((m.take n).map noteT) (by
    intro y hy
    obtain ⟨x, hx, rfl⟩ := List.mem_map.1 hy
    exact note_len (h1 x (List.mem_of_mem_take hx)))
  rw [List.length_map, List.length_take] at this
  have h3 : (min n m.length + 1) * (4 + [(32 : UInt8)].length) ≤ 49 * 5 := Nat.mul_le_mul (by omega) (by decide)
  omega
theorem MelodyText_eq (m : List TNote) (h : melOk m = true) : F_impl_MelodyText m = some (melT m) := by
  obtain ⟨hn, hl⟩ := mel_ok h
  unfold F_impl_MelodyText melT
  rw [ValidMelody_eq m (by omega), h, Option.bind_some, Bool.not_true, bif_f]
  by_cases h0 : m.length = 0
  · rw [decide_eq_true (by omega), bif_t, if_pos h0]
  rw [decide_eq_false (by omega), bif_f, if_neg h0]
  suffices H : ∃ r, loop (F_impl_MelodyText_l0 m) (0, []) = some r ∧ r = join (m.map noteT) [32] by
    obtain ⟨r, e, hr⟩ := H
    rw [e, hr]
  refine loop_ex (L := m) (fun i st => st.1 = (i : Int) ∧ st.2 = (m.take i).map noteT) (by omega) ⟨rfl, rfl⟩ ?_ ?_
  · rintro i ⟨j, out⟩ k x hx hi ⟨rfl, hout⟩ hk
    dsimp only at hout
    subst hout
    have hxo := note_ok (hn x (get_mem hx))
    obtain ⟨p1, p2, p3⟩ := pitch_eq hxo.1
    have h2 := len_itoa hxo.2
    have hr : ∀ y : List UInt8, room (((m.take i).map noteT).length + [y].length) 16 := by
      intro y
      rw [List.length_map, List.length_take]
      show room (min i m.length + 1) 16
      exact ⟨by omega, by omega⟩
    simp only [F_impl_MelodyText_l0, int_lt (get_lt hx), ix_get hx, Option.bind_some, bif_t, p2, w64_succ hi, bif_dec]
    have hst : (m.take (i + 1)).map noteT = (m.take i).map noteT ++ [noteT x] := by rw [take_succ hx, List.map_append]; rfl
    by_cases hone : x.2 ≠ 1
    · rw [if_pos hone, Decimal_eq (by omega), Option.bind_some, need_true (by omega), need_true (hr _)]
      exact hk _ ⟨rfl, by dsimp only; rw [hst]; unfold noteT; rw [if_pos hone]⟩
    · rw [if_neg hone, need_true (hr _)]
      exact hk _ ⟨rfl, by dsimp only; rw [hst]; unfold noteT; rw [if_neg hone, List.append_nil]⟩
  · rintro ⟨j, out⟩ k ⟨rfl, hout⟩
    dsimp only at hout
    rw [take_all (Nat.le_refl _)] at hout
    subst hout
    simp only [F_impl_MelodyText_l0, int_lt_self, bif_f]
    have := texts_len h m.length
    rw [take_all (Nat.le_refl _)] at this
    unfold F_join
    rw [need_true ⟨by rw [List.length_map]; omega, by omega⟩]
    exact ⟨_, rfl, rfl⟩
end Go.Ab
/- Texts divided at a byte (own text). -/
set_option linter.unusedVariables false
set_option linter.unusedSimpArgs false
namespace Go.Ab
open Go.RowKit

/-- What stands ahead of the first piece. -/
def ahead (p : List UInt8) : List (List UInt8) → List (List UInt8)
  | h :: t => (p ++ h) :: t
  | [] => [p]
def spl (c : UInt8) : List UInt8 → List (List UInt8)
  | [] => [[]]
  | x :: s => if x = c then [] :: spl c s else ahead [x] (spl c s)
def splN (c : UInt8) : Nat → List UInt8 → List (List UInt8)
  | 0, s => [s]
  | _ + 1, [] => [[]]
  | k + 1, x :: s => if x = c then [] :: splN c k s else ahead [x] (splN c (k + 1) s)
theorem ahead_ahead (p q : List UInt8) (l : List (List UInt8)) : ahead p (ahead q l) = ahead (p ++ q) l := by
  cases l <;> simp [ahead]
theorem ahead_nil {l : List (List UInt8)} (h : l ≠ []) : ahead [] l = l := by
  cases l with
  | nil => exact absurd rfl h
  | cons => rfl
theorem ahead_ne (p : List UInt8) (l : List (List UInt8)) : ahead p l ≠ [] := by cases l <;> simp [ahead]
theorem spl_ne (c : UInt8) (s : List UInt8) : spl c s ≠ [] := by
  cases s with
  | nil => simp [spl]
  | cons x s =>
    simp only [spl]
    split
    · simp
    · exact ahead_ne _ _
theorem spl_len (c : UInt8) (s : List UInt8) : (spl c s).length ≤ s.length + 1 := by
  induction s with
  | nil => simp [spl]
  | cons x s ih =>
    simp only [spl]
    split
    · simp; exact ih
    · have : (ahead [x] (spl c s)).length = (spl c s).length := by
        cases h : spl c s with
        | nil => exact absurd h (spl_ne c s)
        | cons => rfl
      rw [this, List.length_cons]; omega
theorem spl_nil {c : UInt8} {p : List UInt8} : ahead p (spl c []) = [p] := by simp [spl, ahead]
theorem spl_hit {c : UInt8} {p s : List UInt8} : ahead p (spl c (c :: s)) = p :: spl c s := by simp [spl, ahead]
theorem spl_miss {c x : UInt8} {p s : List UInt8} (h : x ≠ c) : ahead p (spl c (x :: s)) = ahead (p ++ [x]) (spl c s) := by
  simp only [spl, h, if_false]
  exact ahead_ahead _ _ _
/-- The pieces hold no byte of the kind, and are no longer than the whole. -/
theorem ahead_mem {p : List UInt8} {l : List (List UInt8)} {Q : List UInt8 → Prop} (h1 : ∀ h t, l = h :: t → Q (p ++ h)) (h0 : l = [] → Q p) (h2 : ∀ x ∈ l, Q x) : ∀ x ∈ ahead p l, Q x := by
  cases l with
  | nil => intro x hx; rw [List.mem_singleton.1 hx]; exact h0 rfl
  | cons h t =>
    intro x hx
    rcases List.mem_cons.1 hx with rfl | hx
    · exact h1 h t rfl
    · exact h2 x (by simp [hx])
theorem spl_sum (c : UInt8) (s : List UInt8) : ∀ x ∈ spl c s, x.length ≤ s.length ∧ c ∉ x := by
  induction s with
  | nil => simp [spl]
  | cons y s ih =>
    simp only [spl]
    split
    · intro x hx
      rcases List.mem_cons.1 hx with rfl | hx
      · simp
      · obtain ⟨h1, h2⟩ := ih x hx
        exact ⟨by simp only [List.length_cons]; omega, h2⟩
    · rename_i hne
      refine ahead_mem ?_ (fun h => absurd h (spl_ne c s)) ?_
      · intro h t e
        obtain ⟨h1, h2⟩ := ih h (by rw [e]; simp)
        refine ⟨by simp only [List.length_append, List.length_cons, List.length_nil]; omega, ?_⟩
        simp only [List.singleton_append, List.mem_cons, not_or]
        exact ⟨fun e => hne e.symm, h2⟩
      · intro x hx
        obtain ⟨h1, h2⟩ := ih x hx
        exact ⟨by simp only [List.length_cons]; omega, h2⟩

theorem index_one (c x : UInt8) (s : List UInt8) : Go.Lib.index (x :: s) [c] = if x = c then 0 else if Go.Lib.index s [c] = -1 then -1 else Go.Lib.index s [c] + 1 := by
  simp only [Go.Lib.index, List.isPrefixOf, Bool.and_true, beq_iff_eq]
  by_cases h : x = c
  · subst h; simp
  · simp [h, show ¬ c = x from fun e => h e.symm]
theorem splitK_eq (c : UInt8) : ∀ (s : List UInt8) (k : Nat), Go.Lib.splitK [c] 0 k s = splN c k s
  | s, 0 => by simp [Go.Lib.splitK, splN]
  | [], k + 1 => by simp [Go.Lib.splitK, splN, Go.Lib.index]
  | x :: s, k + 1 => by
    have ih := splitK_eq c s (k + 1)
    have ih0 := splitK_eq c s k
    have hge := Go.Lib.index_ge s [c]
    simp only [Go.Lib.splitK, splN, index_one, beq_iff_eq] at ih ⊢
    by_cases h : x = c
    · simp [h, ih0]
    · simp only [h, if_false]
      by_cases h2 : Go.Lib.index s [c] = -1
      · simp only [h2, if_true] at ih ⊢
        rw [← ih]; simp [ahead]
      · simp only [h2, if_false] at ih ⊢
        rw [← ih]
        have e1 : ¬ (Go.Lib.index s [c] + 1 = -1) := by omega
        have e2 : (Go.Lib.index s [c] + 1).toNat = (Go.Lib.index s [c]).toNat + 1 := by omega
        rw [if_neg e1, e2]
        simp [ahead, Nat.add_right_comm]
theorem splN_all (c : UInt8) : ∀ (s : List UInt8) (k : Nat), s.count c ≤ k → splN c k s = spl c s
  | [], 0, _ => rfl
  | [], k + 1, _ => rfl
  | x :: s, 0, h => by
    have hx : x ≠ c := by rintro rfl; simp at h
    have hs : s.count c ≤ 0 := by rw [List.count_cons_of_ne hx] at h; exact h
    have ih := splN_all c s 0 hs
    simp only [splN, spl, hx, if_false] at ih ⊢
    rw [← ih]; simp [ahead]
  | x :: s, k + 1, h => by
    simp only [splN, spl]
    by_cases hx : x = c
    · subst hx
      rw [List.count_cons_self] at h
      simp only [if_true]
      rw [splN_all x s k (by omega)]
    · rw [List.count_cons_of_ne hx] at h
      simp only [hx, if_false]
      rw [splN_all c s (k + 1) h]
theorem F_split_eq {s : List UInt8} (c : UInt8) (h : s.length < 4294967281) : F_split s [c] = some (spl c s) := by
  unfold F_split
  rw [need_true ⟨h, by simp⟩, Go.Lib.splitB_data, bz_data, bz_data, splitK_eq]
  congr 1
  refine splN_all c s _ ?_
  have : Go.Lib.countB (bz s) (bz [c]) = Go.Lib.count s [c] := by unfold Go.Lib.countB; rw [bz_data, bz_data]
  rw [this, Go.Lib.count_one]
  exact Nat.le_refl _
theorem F_splitN_eq {s : List UInt8} (c : UInt8) {n : Nat} (h : s.length < 4294967281) (h1 : 1 ≤ n) (h2 : n ≤ 9223372036854775807) : F_splitN s [c] (n : Int) = some (splN c (min n (s.length + 1) - 1) s) := by
  unfold F_splitN
  rw [need_true ⟨h, by simp, by omega, by omega⟩, Go.Lib.splitB_data, bz_data, bz_data, splitK_eq]
  rfl
/-- At the first byte of a kind. -/
def cutA (c : UInt8) (s : List UInt8) : List UInt8 × List UInt8 × Bool := (s.takeWhile (fun x => !decide (x = c)), (s.dropWhile (fun x => !decide (x = c))).tail, decide (c ∈ s))
theorem cut_eq (c : UInt8) : ∀ s : List UInt8, Go.Lib.cut s [c] = cutA c s
  | [] => by simp [Go.Lib.cut, cutA, Go.Lib.index]
  | x :: s => by
    have ih := cut_eq c s
    have hge := Go.Lib.index_ge s [c]
    simp only [Go.Lib.cut, cutA, index_one] at ih ⊢
    by_cases h : x = c
    · subst h; simp
    · have hcx : c ≠ x := fun e => h e.symm
      simp only [h, if_false] at ih ⊢
      by_cases h2 : Go.Lib.index s [c] = -1
      · simp only [h2, if_true] at ih ⊢
        simp only [show ¬ ((0 : Int) ≤ -1) by decide, if_false, Prod.mk.injEq] at ih ⊢
        obtain ⟨i1, i2, i3⟩ := ih
        have i3' : c ∉ s := by simpa using i3.symm
        simp only [List.takeWhile_cons, List.dropWhile_cons, h, ← i1, ← i2, decide_false, Bool.not_false, if_true, true_and]
        simp [hcx, i3']
      · have e1 : (0 : Int) ≤ Go.Lib.index s [c] + 1 := by omega
        have e0 : (0 : Int) ≤ Go.Lib.index s [c] := by omega
        have e2 : (Go.Lib.index s [c] + 1).toNat = (Go.Lib.index s [c]).toNat + 1 := by omega
        simp only [h2, if_false, e1, e2, e0, if_true, Prod.mk.injEq] at ih ⊢
        obtain ⟨i1, i2, i3⟩ := ih
        have i3' : c ∈ s := by simpa using i3.symm
        simp only [List.takeWhile_cons, List.dropWhile_cons, h, ← i1, ← i2, decide_false, Bool.not_false, if_true]
        simp [hcx, i3', Nat.add_right_comm]
theorem F_cut_eq {s : List UInt8} (c : UInt8) (h : s.length < 4294967281) : F_cut s [c] = some (cutA c s) := by
  unfold F_cut
  rw [need_true h, cut_eq]
end Go.Ab
/- The reference's Split (own text). -/
set_option linter.unusedVariables false
set_option linter.unusedSimpArgs false
namespace Go.Ab
open Go.RowKit
theorem sub_nat {α : Type} (L : List α) (a b : Nat) : sub L (a : Int) (b : Int) = (L.take b).drop a := by simp [sub]
theorem sub_step {α : Type} {L : List α} {a i : Nat} {x : α} (h : L[i]? = some x) (ha : a ≤ i) : (L.take (i + 1)).drop a = (L.take i).drop a ++ [x] := by
  rw [take_succ h, List.drop_append_of_le_length (by have := get_lt h; rw [List.length_take]; omega)]
theorem Split_eq (s : List UInt8) (c : UInt8) (hs : s.length ≤ 2000000) : F_spec_l01Split s (c.toNat : Int) = some (spl c s) := by
  unfold F_spec_l01Split
  suffices H : ∃ r, loop (F_spec_l01Split_l0 s (c.toNat : Int)) (0, 0, []) = some r ∧ r = spl c s by
    obtain ⟨r, e, hr⟩ := H
    rw [e, hr]
  refine loop_ex (L := s) (fun i st => ∃ a : Nat, st.1 = (a : Int) ∧ st.2.1 = (i : Int) ∧ a ≤ i ∧ st.2.2.length ≤ i ∧ spl c s = st.2.2 ++ ahead ((s.take i).drop a) (spl c (s.drop i))) (by omega)
    ⟨0, rfl, rfl, Nat.le_refl _, Nat.le_refl _, by simp [ahead_nil (spl_ne c s)]⟩ ?_ ?_
  · rintro i ⟨x1, x2, acc⟩ k x hx hi ⟨a, h1, h2, h3, h4, h5⟩ hk
    dsimp only at h1 h2 h4 h5
    subst h1 h2
    have hl := get_lt hx
    simp only [F_spec_l01Split_l0, int_lt hl, ix_get hx, Option.bind_some, bif_t, w64_succ hi, List.length_singleton]
    rw [drop_cons hx] at h5
    by_cases hc : x = c
    · subst hc
      rw [decide_eq_true rfl, bif_t, need_true ⟨by omega, by omega, by omega⟩, need_true (p := room _ _) (show room (acc.length + 1) 16 from ⟨by omega, by omega⟩)]
      rw [spl_hit] at h5
      refine hk _ ⟨i + 1, rfl, rfl, Nat.le_refl _, ?_, ?_⟩
      · simp; omega
      · dsimp only
        rw [h5, sub_nat, show (List.take (i + 1) s).drop (i + 1) = [] from List.drop_eq_nil_of_le (by rw [List.length_take]; omega), ahead_nil (spl_ne _ _)]
        simp
    · have : ¬ ((x.toNat : Int) = (c.toNat : Int)) := fun e => hc (UInt8.toNat_inj.1 (by omega))
      rw [decide_eq_false this, bif_f]
      refine hk _ ⟨a, rfl, rfl, by omega, by dsimp only; omega, ?_⟩
      dsimp only
      rw [spl_miss hc] at h5
      rw [h5, sub_step hx h3]
  · rintro ⟨x1, x2, acc⟩ k ⟨a, h1, h2, h3, h4, h5⟩
    dsimp only at h1 h2 h4 h5
    subst h1 h2
    simp only [F_spec_l01Split_l0, int_lt_self, bif_f, List.length_singleton]
    rw [need_true ⟨by omega, by omega, by omega⟩, need_true (p := room _ _) (show room (acc.length + 1) 16 from ⟨by omega, by omega⟩)]
    refine ⟨_, rfl, ?_⟩
    rw [h5, List.drop_length, spl_nil, sub_nat]
end Go.Ab
/- Numerals read back (own text). -/
set_option linter.unusedVariables false
set_option linter.unusedSimpArgs false
namespace Go.Ab
open Go.RowKit
open Go.Lib (itoa decDigits)
def dgt (c : UInt8) : Bool := decide (48 ≤ c.toNat ∧ c.toNat ≤ 57)
def val1 (a : Nat) (c : UInt8) : Nat := a * 10 + (c.toNat - 48)
def val (d : List UInt8) : Nat := d.foldl val1 0
theorem val_snoc (d : List UInt8) (c : UInt8) : val (d ++ [c]) = val d * 10 + (c.toNat - 48) := by unfold val; rw [List.foldl_append]; rfl
theorem byte_at {k : Nat} (h : k < 10) : (UInt8.ofNat (48 + k)).toNat = 48 + k := by
  rw [UInt8.toNat_ofNat']; omega
theorem head_app {a b : List UInt8} (h : a ≠ []) : (a ++ b).head? = a.head? := by
  cases a with
  | nil => exact absurd rfl h
  | cons => rfl
theorem dig_val (u : Nat) : val (decDigits u) = u ∧ (decDigits u).all dgt = true ∧ decDigits u ≠ [] ∧ (u ≠ 0 → (decDigits u).head? ≠ some 48) := by
  induction u using Nat.strongRecOn with
  | _ u ih =>
    rw [decDigits]
    by_cases h : u < 10
    · rw [dif_pos h]
      have hb := byte_at h
      refine ⟨?_, ?_, by simp, ?_⟩
      · show 0 * 10 + ((UInt8.ofNat (48 + u)).toNat - 48) = u; omega
      · simp only [List.all_cons, List.all_nil, Bool.and_true, dgt]; exact decide_eq_true (by omega)
      · intro hu e
        simp only [List.head?_cons, Option.some.injEq] at e
        rw [e] at hb
        have : (48 : UInt8).toNat = 48 := rfl
        omega
    · rw [dif_neg h]
      obtain ⟨h1, h2, h3, h4⟩ := ih (u / 10) (by omega)
      have hb := byte_at (k := u % 10) (by omega)
      refine ⟨?_, ?_, by simp, ?_⟩
      · rw [val_snoc, h1, hb]; omega
      · rw [List.all_append, h2, Bool.true_and]
        simp only [List.all_cons, List.all_nil, Bool.and_true, dgt]; exact decide_eq_true (by omega)
      · intro _
        rw [head_app h3]
        exact h4 (by omega)
theorem val_pos {c : UInt8} {d : List UInt8} (hc : dgt c = true) (h0 : c ≠ 48) : 1 ≤ val (c :: d) := by
  have hk : ∀ (d : List UInt8) (a : Nat), 1 ≤ a → 1 ≤ d.foldl val1 a := by
    intro d
    induction d with
    | nil => intro a h; exact h
    | cons x d ih => intro a h; exact ih _ (by unfold val1; omega)
  refine hk d _ ?_
  unfold val1
  have h1 := of_decide_eq_true hc
  have : c.toNat ≠ 48 := fun e => h0 (UInt8.toNat_inj.1 e)
  omega
theorem val_dig : ∀ (n : Nat) (d : List UInt8), d.length = n → d.all dgt = true → d ≠ [] → (d.head? = some 48 → d.length = 1) → decDigits (val d) = d
  | 0, d, hn, _, h0, _ => absurd (List.eq_nil_of_length_eq_zero hn) h0
  | n + 1, d, hn, ha, h0, h48 => by
    obtain ⟨d', c, rfl⟩ : ∃ d' c, d = d' ++ [c] := ⟨d.dropLast, d.getLast h0, (List.dropLast_concat_getLast h0).symm⟩
    rw [List.all_append, Bool.and_eq_true] at ha
    have hc : dgt c = true := by simpa using ha.2
    have hc' := of_decide_eq_true hc
    have hcb : UInt8.ofNat (48 + (c.toNat - 48)) = c := by
      apply UInt8.toNat_inj.1
      rw [byte_at (by omega)]; omega
    rw [val_snoc, decDigits]
    by_cases hd : d' = []
    · subst hd
      have : val [] = 0 := rfl
      rw [this, dif_pos (by omega)]
      simp only [Nat.zero_mul, Nat.zero_add, hcb, List.nil_append]
    · have hl : d'.length = n := by rw [List.length_append, List.length_singleton] at hn; omega
      have hd1 : 1 ≤ d'.length := List.length_pos_iff.2 hd
      have hh : d'.head? ≠ some 48 := by
        intro e
        have := h48 (by rw [head_app hd]; exact e)
        rw [List.length_append, List.length_singleton] at this
        omega
      have ih := val_dig n d' hl ha.1 hd (fun e => absurd e hh)
      have hpos : 1 ≤ val d' := by
        cases d' with
        | nil => exact absurd rfl hd
        | cons x t =>
          have hx : dgt x = true := by have := ha.1; rw [List.all_cons, Bool.and_eq_true] at this; exact this.1
          exact val_pos hx (fun e => hh (by rw [e]; rfl))
      rw [dif_neg (by omega), show (val d' * 10 + (c.toNat - 48)) / 10 = val d' by omega, ih, show (val d' * 10 + (c.toNat - 48)) % 10 = c.toNat - 48 by omega, hcb]
theorem val_lt (d : List UInt8) : d.all dgt = true → ∀ a : Nat, d.foldl val1 a < (a + 1) * 10 ^ d.length := by
  induction d with
  | nil => intro _ a; simp
  | cons c d ih =>
    intro ha a
    rw [List.all_cons, Bool.and_eq_true] at ha
    have hc := of_decide_eq_true ha.1
    have h1 := ih ha.2 (val1 a c)
    have h2 : (val1 a c + 1) * 10 ^ d.length ≤ (a + 1) * 10 * 10 ^ d.length := Nat.mul_le_mul_right _ (by unfold val1; omega)
    rw [List.length_cons, Nat.pow_succ, Nat.mul_comm (10 ^ d.length) 10, ← Nat.mul_assoc]
    exact Nat.lt_of_lt_of_le h1 h2
theorem parse_dig (M : Nat) (hM : 10 ^ 18 ≤ M) : ∀ (d : List UInt8) (a : Nat), d.all dgt = true → (a + 1) * 10 ^ d.length ≤ 10 ^ 18 → Go.Lib.parseUintM M a d = .ok (d.foldl val1 a)
  | [], a, _, _ => rfl
  | c :: d, a, ha, hb => by
    rw [List.all_cons, Bool.and_eq_true] at ha
    have hc := of_decide_eq_true ha.1
    have hpow : 1 ≤ 10 ^ d.length := Nat.one_le_pow _ _ (by decide)
    rw [List.length_cons, Nat.pow_succ, Nat.mul_comm (10 ^ d.length) 10, ← Nat.mul_assoc] at hb
    have hb1 : (a + 1) * 10 * 1 ≤ (a + 1) * 10 * 10 ^ d.length := Nat.mul_le_mul_left _ hpow
    have h2 : (val1 a c + 1) * 10 ^ d.length ≤ (a + 1) * 10 * 10 ^ d.length := Nat.mul_le_mul_right _ (by unfold val1; omega)
    rw [Go.Lib.parseUintM, if_pos hc, if_neg (by omega), if_neg (by omega)]
    exact parse_dig M hM d (val1 a c) ha.2 (Nat.le_trans h2 hb)
/-- The number that a text is the numeral of. -/
def isNum (s : List UInt8) (v : Int) : Prop := s = itoa v ∧ (decDigits v.natAbs).length ≤ 18
theorem itoa_abs (v : Int) : itoa v = if v < 0 then 45 :: decDigits v.natAbs else decDigits v.natAbs := by
  unfold itoa
  split
  · rfl
  · rw [show v.toNat = v.natAbs by omega]
theorem dig_head (u : Nat) : ∃ c t, decDigits u = c :: t ∧ dgt c = true := by
  obtain ⟨_, h2, h3, _⟩ := dig_val u
  cases h : decDigits u with
  | nil => exact absurd h h3
  | cons c t =>
    rw [h, List.all_cons, Bool.and_eq_true] at h2
    exact ⟨c, t, rfl, h2.1⟩
theorem num_small {v : Int} (h : (decDigits v.natAbs).length ≤ 18) : v.natAbs < 10 ^ 18 := by
  obtain ⟨h1, h2, _, _⟩ := dig_val v.natAbs
  have := val_lt (decDigits v.natAbs) h2 0
  have e : (decDigits v.natAbs).foldl val1 0 = v.natAbs := h1
  rw [e, Nat.zero_add, Nat.one_mul] at this
  exact Nat.lt_of_lt_of_le this (Nat.pow_le_pow_right (by decide) h)
theorem num_inj {v v' : Int} (h : itoa v = itoa v') : v = v' := by
  rw [itoa_abs, itoa_abs] at h
  have key : ∀ u u' : Nat, decDigits u = decDigits u' → u = u' := fun u u' e => by rw [← (dig_val u).1, ← (dig_val u').1, e]
  have no : ∀ u u' : Nat, ¬ 45 :: decDigits u = decDigits u' := by
    intro u u' e
    obtain ⟨c, t, e2, hc⟩ := dig_head u'
    rw [e2] at e
    simp only [List.cons.injEq] at e
    rw [← e.1] at hc
    exact absurd hc (by decide)
  split at h <;> split at h
  · have := key _ _ (List.cons.inj h).2; omega
  · exact absurd h (no _ _)
  · exact absurd h.symm (no _ _)
  · have := key _ _ h; omega
theorem trim_itoa (v : Int) : Go.Lib.trimPrefix (itoa v) [45] = decDigits v.natAbs := by
  rw [itoa_abs]
  unfold Go.Lib.trimPrefix Go.Lib.hasPrefix
  split
  · simp
  · obtain ⟨c, t, e, hc⟩ := dig_head v.natAbs
    rw [e]
    have : c ≠ 45 := fun e => by rw [e] at hc; exact absurd hc (by decide)
    simp [List.isPrefixOf, this, Ne.symm this]
theorem parse_itoa {v : Int} (h : (decDigits v.natAbs).length ≤ 18) : Go.Lib.parseIntB 64 (itoa v) = .ok v := by
  obtain ⟨h1, h2, h3, _⟩ := dig_val v.natAbs
  have hs := num_small h
  obtain ⟨c, t, e, hc⟩ := dig_head v.natAbs
  have hc' := of_decide_eq_true hc
  have hp : Go.Lib.parseUintB 64 (decDigits v.natAbs) = .ok v.natAbs := by
    unfold Go.Lib.parseUintB
    rw [if_neg h3, parse_dig _ (by decide) _ 0 h2 (by rw [Nat.zero_add, Nat.one_mul]; exact Nat.pow_le_pow_right (by decide) h)]
    exact congrArg _ h1
  rw [itoa_abs]
  split
  · rename_i hv
    unfold Go.Lib.parseIntB
    dsimp only
    have e45 : (45 : UInt8).toNat = 45 := rfl
    rw [if_pos (Or.inr e45), hp]
    dsimp only
    rw [if_neg (by simp [e45]), if_neg (by rintro ⟨_, h⟩; omega), if_pos e45]
    congr 1; omega
  · rename_i hv
    unfold Go.Lib.parseIntB
    rw [e]
    dsimp only
    rw [e] at hp
    rw [if_neg (by omega), hp]
    dsimp only
    have : ¬ c.toNat = 45 := by omega
    rw [if_neg (by rintro ⟨_, h⟩; omega), if_neg (by rintro ⟨h, _⟩; exact this h), if_neg this]
    congr 1; omega
theorem readDec_num {s : List UInt8} {v : Int} (h : isNum s v) : readDec s = (v, true) := by
  obtain ⟨rfl, h⟩ := h
  unfold readDec
  rw [parse_itoa h]
  dsimp only
  rw [trim_itoa, if_neg (by simp; omega)]
theorem readDec_no {s : List UInt8} (h : ∀ v, ¬ isNum s v) : readDec s = (0, false) := by
  unfold readDec
  split
  · rename_i v hv
    split
    · rfl
    · rename_i hn
      simp only [not_or, Decidable.not_not, Nat.not_lt] at hn
      obtain ⟨h1, h2⟩ := hn
      refine absurd ⟨h2.symm, ?_⟩ (h v)
      rw [← h2, trim_itoa] at h1
      exact h1
  · rfl
end Go.Ab
/- The reference's numerals read back (own text). -/
set_option linter.unusedVariables false
set_option linter.unusedSimpArgs false
namespace Go.Ab
open Go.RowKit
open Go.Lib (itoa decDigits)
theorem u8_sub {c : UInt8} (h : dgt c = true) : w64 (IntKind.wrap .u8 ((c.toNat : Int) - 48)) = ((c.toNat - 48 : Nat) : Int) := by
  have hc := of_decide_eq_true h
  have e1 : IntKind.wrap .u8 ((c.toNat : Int) - 48) = ((c.toNat - 48 : Nat) : Int) := by
    simp only [IntKind.wrap, IntKind.signed, IntKind.bits]
    have : (((c.toNat : Int) - 48) % 2 ^ 8) = (c.toNat : Int) - 48 := Int.emod_eq_of_lt (by omega) (by omega)
    simp [this]
    try omega
  rw [e1, w64_id (by omega)]
theorem digit_eq (c : UInt8) : F_spec_l01Digit (c.toNat : Int) = some (dgt c) := by
  unfold F_spec_l01Digit dgt
  by_cases h : 48 ≤ c.toNat
  · rw [decide_eq_true (by omega), bif_t]
    congr 1
    by_cases h2 : c.toNat ≤ 57
    · rw [decide_eq_true (by omega), decide_eq_true (by omega)]
    · rw [decide_eq_false (by omega), decide_eq_false (by omega)]
  · rw [decide_eq_false (by omega), bif_f, decide_eq_false (by omega)]
theorem num_loop (s : List UInt8) (a : Nat) (ha : a ≤ 1) (hle : a ≤ s.length) (h18 : s.length - a ≤ 18) : F_spec_l01Number_j1 s (a : Int) = some (if (s.drop a).all dgt = true then (if a = 1 then -(val (s.drop a) : Int) else (val (s.drop a) : Int), true) else (0, false)) := by
  unfold F_spec_l01Number_j1
  suffices H : ∃ r, loop (F_spec_l01Number_l2 s (a : Int)) (0, (a : Int)) = some r ∧ r = (if (s.drop a).all dgt = true then (if a = 1 then -(val (s.drop a) : Int) else (val (s.drop a) : Int), true) else (0, false)) by
    obtain ⟨r, e, hr⟩ := H
    rw [e, hr]
  refine loop_mu (fun st => ∃ i : Nat, st.2 = (i : Int) ∧ a ≤ i ∧ i ≤ s.length ∧ st.1 = (val ((s.take i).drop a) : Int) ∧ ((s.take i).drop a).all dgt = true) (fun st => ((s.length : Int) - st.2).toNat) ⟨a, rfl, Nat.le_refl _, hle, ?_, ?_⟩ (by show ((s.length : Int) - (a : Int)).toNat < lim; unfold lim; omega) ?_
  · rw [List.drop_eq_nil_of_le (by rw [List.length_take]; omega)]; rfl
  · rw [List.drop_eq_nil_of_le (by rw [List.length_take]; omega)]; rfl
  · rintro ⟨n, j⟩ k ⟨i, h1, h2, h3, h4, h5⟩ hk
    dsimp only at h1 h4 hk
    subst h1 h4
    simp only [F_spec_l01Number_l2]
    by_cases hi : i < s.length
    · obtain ⟨c, hc⟩ := get_some hi
      have hst := sub_step hc h2
      rw [decide_eq_true (by omega), bif_t, ix_get hc, Option.bind_some, digit_eq, Option.bind_some]
      cases hd : dgt c
      · rw [Bool.not_false, bif_t]
        refine ⟨_, rfl, ?_⟩
        have hm : c ∈ s.drop a := by
          rw [List.mem_iff_getElem?]
          exact ⟨i - a, by rw [List.getElem?_drop, show a + (i - a) = i by omega]; exact hc⟩
        rw [if_neg]
        intro hall
        rw [List.all_eq_true] at hall
        rw [hall c hm] at hd
        cases hd
      · rw [Bool.not_true, bif_f, Option.bind_some, u8_sub hd]
        have hl := val_lt _ h5 0
        rw [Nat.zero_add, Nat.one_mul] at hl
        have hl2 : 10 ^ ((s.take i).drop a).length ≤ 10 ^ 17 := Nat.pow_le_pow_right (by decide) (by rw [List.length_drop, List.length_take]; omega)
        have hv : val ((s.take i).drop a) < 10 ^ 17 := Nat.lt_of_lt_of_le hl hl2
        have hcb : c.toNat < 256 := UInt8.toNat_lt c
        have e1 : w64 (10 * (val ((s.take i).drop a) : Int)) = 10 * (val ((s.take i).drop a) : Int) := w64_id (by omega)
        rw [e1, w64_id (by omega), w64_succ (by omega)]
        refine hk _ ⟨i + 1, rfl, by omega, by omega, ?_, ?_⟩ (by dsimp only; omega)
        · dsimp only
          rw [hst, val_snoc]; omega
        · rw [hst, List.all_append, h5]; simp [hd]
    · have : i = s.length := by omega
      subst this
      rw [take_all (Nat.le_refl _)] at h5 ⊢
      rw [decide_eq_false (by omega), bif_f, if_pos h5]
      have hl := val_lt _ h5 0
      rw [Nat.zero_add, Nat.one_mul] at hl
      have hl2 : 10 ^ (s.drop a).length ≤ 10 ^ 18 := Nat.pow_le_pow_right (by decide) (by rw [List.length_drop]; omega)
      have hv : val (s.drop a) < 10 ^ 18 := Nat.lt_of_lt_of_le hl hl2
      by_cases h1 : a = 1
      · subst h1
        rw [show decide (((1 : Nat) : Int) = (1 : Int)) = true from rfl, bif_t, w64_id (by omega), if_pos rfl]
        exact ⟨_, rfl, by simp⟩
      · rw [decide_eq_false (by omega), bif_f, if_neg h1]
        exact ⟨_, rfl, rfl⟩
/-- What a text reads as, its sign taken off. -/
def numAt (s : List UInt8) (a : Nat) : Int × Bool := if s.drop a = [] ∨ 18 < (s.drop a).length ∨ ((s.drop a).head? = some 48 ∧ 1 < s.length) ∨ ¬ (s.drop a).all dgt = true then (0, false) else (if a = 1 then -(val (s.drop a) : Int) else (val (s.drop a) : Int), true)
theorem j0_eq (s : List UInt8) (a : Nat) (ha : a ≤ 1) (hle : a ≤ s.length) (hs : s.length ≤ 9223372036854775806) : F_spec_l01Number_j0 s (a : Int) = some (numAt s a) := by
  unfold F_spec_l01Number_j0 numAt
  by_cases h0 : s.length = a
  · rw [decide_eq_true (by omega), bif_t, if_pos (Or.inl (List.drop_eq_nil_of_le (by omega)))]
  have hne : s.drop a ≠ [] := by intro e; have := congrArg List.length e; rw [List.length_drop] at this; simp at this; omega
  rw [decide_eq_false (by omega), bif_f, w64_id (by omega)]
  by_cases h18 : 18 < s.length - a
  · rw [decide_eq_true (by omega), bif_t, if_pos (Or.inr (Or.inl (by rw [List.length_drop]; omega)))]
  rw [decide_eq_false (by omega), bif_f]
  obtain ⟨x, hx⟩ := get_some (L := s) (n := a) (by omega)
  have hh : (s.drop a).head? = some x := by rw [drop_cons hx]; rfl
  rw [ix_get hx, Option.bind_some, num_loop s a ha hle (by omega)]
  have b48 : ((x.toNat : Int) = 48) ↔ x = 48 := by
    constructor
    · intro h; exact UInt8.toNat_inj.1 (by show x.toNat = 48; omega)
    · rintro rfl; rfl
  have fin : ∀ hn : ¬ ((s.drop a).head? = some 48 ∧ 1 < s.length), some (if (s.drop a).all dgt = true then (if a = 1 then -(val (s.drop a) : Int) else (val (s.drop a) : Int), true) else ((0 : Int), false)) = some (if s.drop a = [] ∨ 18 < (s.drop a).length ∨ ((s.drop a).head? = some 48 ∧ 1 < s.length) ∨ ¬ (s.drop a).all dgt = true then (0, false) else (if a = 1 then -(val (s.drop a) : Int) else (val (s.drop a) : Int), true)) := by
    intro hn
    congr 1
    by_cases hall : (s.drop a).all dgt = true
    · rw [if_pos hall]
      refine (if_neg ?_).symm
      rintro (h | h | h | h)
      · exact hne h
      · rw [List.length_drop] at h; omega
      · exact hn h
      · exact h hall
    · rw [if_neg hall]
      exact (if_pos (Or.inr (Or.inr (Or.inr hall)))).symm
  by_cases hx48 : x = 48
  · rw [decide_eq_true (b48.2 hx48), bif_t]
    by_cases h1 : 1 < s.length
    · rw [decide_eq_true (by omega), bif_t, if_pos (Or.inr (Or.inr (Or.inl ⟨by rw [hh, hx48], h1⟩)))]
    · rw [decide_eq_false (by omega), bif_f]
      exact fin (fun h => h1 h.2)
  · rw [decide_eq_false (fun e => hx48 (b48.1 e)), bif_f]
    exact fin (fun h => hx48 (by rw [hh] at h; exact Option.some.inj h.1))
theorem numAt_eq (s : List UInt8) (a : Nat) (h : a = if s.head? = some 45 then 1 else 0) : numAt s a = readDec s := by
  have back : ∀ v, isNum s v → ¬ (s.drop a = [] ∨ 18 < (s.drop a).length ∨ ((s.drop a).head? = some 48 ∧ 1 < s.length) ∨ ¬ (s.drop a).all dgt = true) ∧ (if a = 1 then -(val (s.drop a) : Int) else (val (s.drop a) : Int)) = v := by
    rintro v ⟨hs, hl⟩
    obtain ⟨q1, q2, q3, q4⟩ := dig_val v.natAbs
    rw [itoa_abs] at hs
    by_cases hv : v < 0
    · rw [if_pos hv] at hs
      have ha : a = 1 := by rw [h, hs]; rfl
      subst ha
      have hd : s.drop 1 = decDigits v.natAbs := by rw [hs]; rfl
      rw [hd, q1]
      refine ⟨?_, by rw [if_pos rfl]; omega⟩
      rintro (e | e | e | e)
      · exact q3 e
      · omega
      · exact q4 (by omega) e.1
      · exact e q2
    · rw [if_neg hv] at hs
      have ha : a = 0 := by
        rw [h, if_neg]
        rw [hs]
        obtain ⟨c, t, e, hc⟩ := dig_head v.natAbs
        rw [e]
        intro e2
        simp only [List.head?_cons, Option.some.injEq] at e2
        rw [e2] at hc
        exact absurd hc (by decide)
      subst ha
      rw [List.drop_zero]
      refine ⟨?_, by rw [hs, q1, if_neg (by decide)]; omega⟩
      rintro (e | e | e | e)
      · rw [hs] at e; exact q3 e
      · rw [hs] at e; omega
      · obtain ⟨e1, e2⟩ := e
        rw [hs] at e1 e2
        by_cases hu : v.natAbs = 0
        · rw [hu, decDigits, dif_pos (by decide)] at e2; simp at e2
        · exact q4 hu e1
      · rw [hs] at e; exact e q2
  unfold numAt
  by_cases hc : s.drop a = [] ∨ 18 < (s.drop a).length ∨ ((s.drop a).head? = some 48 ∧ 1 < s.length) ∨ ¬ (s.drop a).all dgt = true
  · rw [if_pos hc, readDec_no (fun v hv => (back v hv).1 hc)]
  · rw [if_neg hc]
    simp only [not_or, Decidable.not_not] at hc
    obtain ⟨c1, c2, c3, c4⟩ := hc
    have hdig : decDigits (val (s.drop a)) = s.drop a := val_dig _ _ rfl c4 c1 (by
      intro e
      have hs1 : s.length ≤ 1 := by
        apply Decidable.byContradiction
        intro hn
        exact c3 ⟨e, by omega⟩
      have : 1 ≤ (s.drop a).length := List.length_pos_iff.2 c1
      rw [List.length_drop] at this ⊢
      omega)
    by_cases hh : s.head? = some 45
    · have ha : a = 1 := by rw [h, if_pos hh]
      subst ha
      obtain ⟨t, rfl⟩ : ∃ t, s = 45 :: t := by
        cases s with
        | nil => cases hh
        | cons x t => simp only [List.head?_cons, Option.some.injEq] at hh; exact ⟨t, by rw [hh]⟩
      have hd1 : (45 :: t).drop 1 = t := rfl
      rw [hd1] at c1 c2 c3 c4 hdig ⊢
      have hpos : val t ≠ 0 := by
        intro e
        have e0 : decDigits 0 = [48] := by rw [decDigits, dif_pos (by decide)]; rfl
        rw [e, e0] at hdig
        rw [← hdig] at c3
        exact c3 ⟨rfl, by simp⟩
      rw [if_pos rfl]
      refine (readDec_num ⟨?_, ?_⟩).symm
      · rw [itoa_abs, if_pos (by omega), show (-(val t : Int)).natAbs = val t by omega, hdig]
      · rw [show (-(val t : Int)).natAbs = val t by omega, hdig]; omega
    · have ha : a = 0 := by rw [h, if_neg hh]
      subst ha
      rw [List.drop_zero] at *
      rw [if_neg (by decide)]
      refine (readDec_num ⟨?_, ?_⟩).symm
      · rw [itoa_abs, if_neg (by omega), show ((val s : Int)).natAbs = val s by omega, hdig]
      · rw [show ((val s : Int)).natAbs = val s by omega, hdig]; omega
theorem Number_eq (s : List UInt8) (hs : s.length ≤ 9223372036854775806) : F_spec_l01Number s = some (readDec s) := by
  unfold F_spec_l01Number
  cases s with
  | nil =>
    rw [decide_eq_false (by simp), bif_f]
    exact (j0_eq [] 0 (by decide) (by simp) hs).trans (by rw [numAt_eq [] 0 rfl])
  | cons x t =>
    rw [decide_eq_true (by rw [List.length_cons]; omega), bif_t, ix_zero, Option.bind_some]
    have b45 : ((x.toNat : Int) = 45) ↔ x = 45 := by
      constructor
      · intro h; exact UInt8.toNat_inj.1 (by show x.toNat = 45; omega)
      · rintro rfl; rfl
    by_cases hx : x = 45
    · rw [decide_eq_true (b45.2 hx), bif_t]
      exact (j0_eq (x :: t) 1 (by decide) (by rw [List.length_cons]; omega) hs).trans (by rw [numAt_eq _ 1 (by rw [hx]; rfl)])
    · rw [decide_eq_false (fun e => hx (b45.1 e)), bif_f]
      exact (j0_eq (x :: t) 0 (by decide) (by omega) hs).trans (by rw [numAt_eq _ 0 (by rw [if_neg]; simpa using hx)])
end Go.Ab
/- Texts parted and joined again (own text). -/
set_option linter.unusedVariables false
set_option linter.unusedSimpArgs false
namespace Go.Ab
open Go.RowKit
open Go.Lib (itoa decDigits join)
theorem spl_count (c : UInt8) : ∀ s : List UInt8, (spl c s).length = s.count c + 1
  | [] => rfl
  | x :: s => by
    have ih := spl_count c s
    have ha : ∀ l : List (List UInt8), l ≠ [] → (ahead [x] l).length = l.length := by
      intro l hl
      cases l with
      | nil => exact absurd rfl hl
      | cons => rfl
    by_cases hx : x = c
    · subst hx; simp only [spl, if_true, List.length_cons, List.count_cons_self, ih]
    · simp only [spl, hx, if_false]
      rw [ha _ (spl_ne c s), ih, List.count_cons_of_ne hx]
theorem splN_ne (c : UInt8) : ∀ (k : Nat) (s : List UInt8), splN c k s ≠ []
  | 0, s => by simp [splN]
  | k + 1, [] => by simp [splN]
  | k + 1, x :: s => by
    simp only [splN]
    split
    · simp
    · exact ahead_ne _ _
theorem splN_count (c : UInt8) : ∀ (s : List UInt8) (k : Nat), (splN c k s).length = min k (s.count c) + 1
  | s, 0 => by simp [splN]
  | [], k + 1 => by simp [splN]
  | x :: s, k + 1 => by
    have ha : ∀ l : List (List UInt8), l ≠ [] → (ahead [x] l).length = l.length := by
      intro l hl
      cases l with
      | nil => exact absurd rfl hl
      | cons => rfl
    by_cases hx : x = c
    · subst hx
      simp only [splN, if_true, List.length_cons, splN_count x s k, List.count_cons_self]
      omega
    · simp only [splN, hx, if_false]
      rw [ha _ (splN_ne c _ s), splN_count c s (k + 1), List.count_cons_of_ne hx]
theorem splN_small (c : UInt8) : ∀ (s : List UInt8) (k : Nat), ∀ x ∈ splN c k s, x.length ≤ s.length
  | [], k, x, hx => by cases k <;> simp [splN] at hx <;> simp [hx]
  | y :: s, 0, x, hx => by simp [splN] at hx; simp [hx]
  | y :: s, k + 1, x, hx => by
    simp only [splN] at hx
    split at hx
    · rcases List.mem_cons.1 hx with rfl | hx
      · simp
      · have := splN_small c s k x hx; rw [List.length_cons]; omega
    · cases h : splN c (k + 1) s with
      | nil => exact absurd h (splN_ne c (k + 1) s)
      | cons z t =>
        rw [h] at hx
        simp only [ahead] at hx
        rcases List.mem_cons.1 hx with rfl | hx
        · have := splN_small c s (k + 1) z (by rw [h]; simp)
          simp only [List.length_append, List.length_cons, List.length_nil]; omega
        · have := splN_small c s (k + 1) x (by rw [h]; simp [hx])
          rw [List.length_cons]; omega
theorem join_ahead (p sep : List UInt8) (l : List (List UInt8)) (h : l ≠ []) : join (ahead p l) sep = p ++ join l sep := by
  cases l with
  | nil => exact absurd rfl h
  | cons x t => simp only [ahead, Go.Lib.join_cons, List.append_assoc]
theorem join_spl (c : UInt8) : ∀ s : List UInt8, join (spl c s) [c] = s
  | [] => rfl
  | x :: s => by
    have ih := join_spl c s
    by_cases hx : x = c
    · subst hx
      simp only [spl, if_true]
      cases h : spl x s with
      | nil => exact absurd h (spl_ne x s)
      | cons y t =>
        rw [h, Go.Lib.join_cons] at ih
        rw [Go.Lib.join_cons]
        simp only [Go.Lib.joinTail, List.map_cons, List.flatten_cons, List.nil_append, List.cons_append, List.singleton_append] at ih ⊢
        rw [← ih]
    · simp only [spl, hx, if_false]
      rw [join_ahead _ _ _ (spl_ne c s), ih]; rfl
theorem readDec_back {p : List UInt8} (h : (readDec p).2 = true) : itoa (readDec p).1 = p := by
  by_cases hn : ∃ v, isNum p v
  · obtain ⟨v, hv⟩ := hn
    rw [readDec_num hv]; exact hv.1.symm
  · rw [readDec_no (fun v hv => hn ⟨v, hv⟩)] at h; cases h
theorem spl_free {c : UInt8} : ∀ {x : List UInt8}, c ∉ x → ∀ s, spl c (x ++ c :: s) = x :: spl c s
  | [], _, s => by simp [spl]
  | y :: x, h, s => by
    have hy : y ≠ c := fun e => h (by simp [e])
    have hx : c ∉ x := fun e => h (by simp [e])
    simp only [List.cons_append, spl, hy, if_false, spl_free hx s, ahead, List.singleton_append, List.nil_append]
theorem spl_one {c : UInt8} : ∀ {x : List UInt8}, c ∉ x → spl c x = [x]
  | [], _ => rfl
  | y :: x, h => by
    have hy : y ≠ c := fun e => h (by simp [e])
    have hx : c ∉ x := fun e => h (by simp [e])
    simp only [spl, hy, if_false, spl_one hx, ahead, List.singleton_append]
theorem spl_join {c : UInt8} : ∀ {L : List (List UInt8)}, L ≠ [] → (∀ x ∈ L, c ∉ x) → spl c (join L [c]) = L
  | [], h, _ => absurd rfl h
  | [x], _, h => by rw [Go.Lib.join_one]; exact spl_one (h x (by simp))
  | x :: y :: L, _, h => by
    have e : join (x :: y :: L) [c] = x ++ c :: join (y :: L) [c] := by
      rw [Go.Lib.join_cons, Go.Lib.join_cons]
      simp [Go.Lib.joinTail]
    rw [e, spl_free (h x (by simp)), spl_join (by simp) (fun z hz => h z (by simp [hz]))]
end Go.Ab
/- Notes read from their texts (own text). -/
set_option linter.unusedVariables false
set_option linter.unusedSimpArgs false
namespace Go.Ab
open Go.RowKit
open Go.Lib (itoa decDigits join)
theorem sub_tail {α : Type} (A : List α) : sub A 1 (A.length : Int) = A.drop 1 := by
  have := sub_nat A 1 A.length
  rw [List.take_of_length_le (Nat.le_refl _)] at this
  exact this
/-- The number of a tone's name. -/
noncomputable def nmd (c : UInt8) : Int := (F_spec_l03Named (c.toNat : Int)).getD (-1)
theorem named_all : ∀ c : Fin 256, (match F_spec_l03Named (c.val : Int) with
    | some r => decide (r = -1) || (decide (0 ≤ r) && (decide (r < 12) && decide (F_impl_pitchText r = some [UInt8.ofNat c.val])))
    | none => false) = true := by decide +kernel
theorem name_all : ∀ k : Fin 12, (match F_impl_pitchText (k.val : Int) with
    | some [c] => decide (F_spec_l03Named (c.toNat : Int) = some (k.val : Int)) && (decide (F_impl_pitchText ((k.val : Int) - 12) = some [c, 44]) && (decide (F_impl_pitchText ((k.val : Int) + 12) = some [c, 39]) && (!dgt c && decide (c ≠ 32 ∧ c ≠ 45))))
    | _ => false) = true := by decide +kernel
theorem named_eq (c : UInt8) : F_spec_l03Named (c.toNat : Int) = some (nmd c) ∧ (nmd c < 0 → nmd c = -1) ∧ (0 ≤ nmd c → nmd c < 12 ∧ pn (nmd c) = [c]) := by
  have h := named_all ⟨c.toNat, UInt8.toNat_lt c⟩
  dsimp only at h
  cases hq : F_spec_l03Named (c.toNat : Int) with
  | none => rw [hq] at h; cases h
  | some r =>
    rw [hq] at h
    have hn : nmd c = r := by unfold nmd; rw [hq]; rfl
    have hu : UInt8.ofNat c.toNat = c := UInt8.ofNat_toNat
    simp only [Bool.or_eq_true, Bool.and_eq_true, decide_eq_true_eq, hu] at h
    rw [hn]
    refine ⟨rfl, fun h0 => ?_, fun h0 => ?_⟩
    · rcases h with h | h
      · exact h
      · omega
    · rcases h with h | ⟨_, h1, h2⟩
      · omega
      · exact ⟨h1, by unfold pn; rw [h2]; rfl⟩
/-- The name of a tone. -/
theorem name_eq {k : Int} (h : 0 ≤ k ∧ k < 12) : ∃ c, pn k = [c] ∧ nmd c = k ∧ pn (k - 12) = [c, 44] ∧ pn (k + 12) = [c, 39] ∧ dgt c = false ∧ c ≠ 32 ∧ c ≠ 45 := by
  have h1 := name_all ⟨k.toNat, by omega⟩
  dsimp only at h1
  rw [show ((k.toNat : Nat) : Int) = k by omega] at h1
  split at h1
  · rename_i c hc
    simp only [Bool.and_eq_true, decide_eq_true_eq, Bool.not_eq_true'] at h1
    obtain ⟨q1, q2, q3, q4, q5, q6⟩ := h1
    exact ⟨c, by unfold pn; rw [hc]; rfl, by unfold nmd; rw [q1]; rfl, by unfold pn; rw [q2]; rfl, by unfold pn; rw [q3]; rfl, q4, q5, q6⟩
  · cases h1
def oneJ (p : Int) (r : List UInt8) : TNote × Bool := if r = [] then ((p, 1), true) else if (readDec r).2 = true ∧ (readDec r).1 ≠ 1 ∧ 1 ≤ (readDec r).1 ∧ (readDec r).1 ≤ 64 then ((p, (readDec r).1), true) else ((0, 0), false)
noncomputable def oneR : List UInt8 → TNote × Bool
  | [] => ((0, 0), false)
  | c :: r => if nmd c < 0 then ((0, 0), false) else if r.head? = some 44 then oneJ (nmd c - 12) r.tail else if r.head? = some 39 then oneJ (nmd c + 12) r.tail else oneJ (nmd c) r
theorem Length_eq (n : Int) : F_spec_l09Length n = some (decide (1 ≤ n ∧ n ≤ 64)) := by
  unfold F_spec_l09Length
  rw [l00In_eq]; rfl
theorem j1_eq (p : Int) (r : List UInt8) (hr : r.length ≤ 9223372036854775806) : F_spec_l09ReadOne_j1 p r = some (oneJ p r) := by
  unfold F_spec_l09ReadOne_j1 oneJ
  by_cases h0 : r = []
  · rw [decide_eq_true h0, bif_t, if_pos h0]
  rw [decide_eq_false h0, bif_f, if_neg h0, Number_eq r hr, Option.bind_some]
  cases h2 : (readDec r).2
  · rw [Bool.not_false, bif_t, if_neg (by simp)]
  rw [Bool.not_true, bif_f]
  by_cases h1 : (readDec r).1 = 1
  · rw [decide_eq_true h1, bif_t, if_neg (fun h => h.2.1 h1)]
  rw [decide_eq_false h1, bif_f, Length_eq, Option.bind_some]
  by_cases h3 : 1 ≤ (readDec r).1 ∧ (readDec r).1 ≤ 64
  · rw [decide_eq_true h3, Bool.not_true, bif_f, if_pos ⟨rfl, h1, h3.1, h3.2⟩]
  · rw [decide_eq_false h3, Bool.not_false, bif_t, if_neg (fun h => h3 h.2.2)]
theorem byte_is (d : UInt8) (n : Nat) (hn : n < 256) : ((d.toNat : Int) = (n : Int)) ↔ d = UInt8.ofNat n := by
  constructor
  · intro h
    have : d.toNat = n := by omega
    rw [← this]; exact UInt8.ofNat_toNat.symm
  · rintro rfl
    have e : (UInt8.ofNat n).toNat = n % 256 := UInt8.toNat_ofNat
    rw [e]; omega
theorem ReadOne_eq (x : List UInt8) (hx : x.length ≤ 9223372036854775806) : F_spec_l09ReadOne x = some (oneR x) := by
  unfold F_spec_l09ReadOne
  cases x with
  | nil => rfl
  | cons c r =>
    rw [decide_eq_false (by simp), bif_f]
    have i0 : ix (c :: r) 0 = some c := rfl
    obtain ⟨n1, n2, n3⟩ := named_eq c
    have hs : sub (c :: r) 1 ((c :: r).length : Int) = r := sub_tail (c :: r)
    simp only [i0, Option.bind_some, n1, hs, oneR]
    by_cases hneg : nmd c < 0
    · rw [decide_eq_true hneg, bif_t, if_pos hneg]
    obtain ⟨n4, _⟩ := n3 (by omega)
    rw [decide_eq_false hneg, bif_f, if_neg hneg, need_true (by simp only [List.length_cons]; omega)]
    simp only [List.length_cons] at hx
    cases r with
    | nil =>
      rw [decide_eq_false (by simp), bif_f]
      unfold F_spec_l09ReadOne_j2
      simp only [hs, bif_f]
      rw [decide_eq_false (by simp), bif_f, if_neg (by simp), if_neg (by simp)]
      exact j1_eq _ _ (by simp)
    | cons d r =>
      have hs2 : sub (d :: r) 1 ((d :: r).length : Int) = r := sub_tail (d :: r)
      have i1 : ix (d :: r) 0 = some d := rfl
      simp only [List.length_cons] at hx
      rw [decide_eq_true (by simp), bif_t, i1, Option.bind_some]
      unfold F_spec_l09ReadOne_j2
      simp only [hs, hs2, i1, Option.bind_some]
      have b44 : ((d.toNat : Int) = 44) ↔ d = 44 := byte_is d 44 (by decide)
      have b39 : ((d.toNat : Int) = 39) ↔ d = 39 := byte_is d 39 (by decide)
      by_cases h44 : d = 44
      · rw [decide_eq_true (b44.2 h44), bif_t, if_pos (by rw [h44]; rfl), need_true (by simp only [List.length_cons]; omega), w64_id (by omega)]
        exact j1_eq _ _ (by omega)
      · have e44 : ¬ (d :: r).head? = some 44 := fun h => h44 (by simpa using h)
        rw [decide_eq_false (fun h => h44 (b44.1 h)), bif_f, if_neg e44, decide_eq_true (by simp), bif_t]
        by_cases h39 : d = 39
        · rw [decide_eq_true (b39.2 h39), bif_t, if_pos (by rw [h39]; rfl), need_true (by simp only [List.length_cons]; omega), w64_id (by omega)]
          exact j1_eq _ _ (by omega)
        · have e39 : ¬ (d :: r).head? = some 39 := fun h => h39 (by simpa using h)
          rw [decide_eq_false (fun h => h39 (b39.1 h)), bif_f, if_neg e39]
          exact j1_eq _ _ (by simp only [List.length_cons]; omega)
theorem oneJ_back {p : Int} {r : List UInt8} (h : (oneJ p r).2 = true) : ∃ n, (oneJ p r).1 = (p, n) ∧ (1 ≤ n ∧ n ≤ 64) ∧ r = if n ≠ 1 then itoa n else [] := by
  unfold oneJ at h ⊢
  by_cases h0 : r = []
  · rw [if_pos h0]; exact ⟨1, rfl, by omega, by rw [if_neg (by decide)]; exact h0⟩
  rw [if_neg h0] at h ⊢
  by_cases hc : (readDec r).2 = true ∧ (readDec r).1 ≠ 1 ∧ 1 ≤ (readDec r).1 ∧ (readDec r).1 ≤ 64
  · rw [if_pos hc]
    exact ⟨_, rfl, hc.2.2, by rw [if_pos hc.2.1, readDec_back hc.1]⟩
  · rw [if_neg hc] at h; cases h
/-- What reads as a note is its text. -/
theorem oneR_back {x : List UInt8} (h : (oneR x).2 = true) : noteOk (oneR x).1 = true ∧ noteT (oneR x).1 = x := by
  cases x with
  | nil => cases h
  | cons c r =>
    simp only [oneR] at h ⊢
    obtain ⟨n1, n2, n3⟩ := named_eq c
    by_cases hneg : nmd c < 0
    · rw [if_pos hneg] at h; cases h
    rw [if_neg hneg] at h ⊢
    obtain ⟨n4, n5⟩ := n3 (by omega)
    obtain ⟨c', q1, q2, q3, q4, _⟩ := name_eq ⟨by omega, n4⟩
    have hcc : c' = c := by rw [n5] at q1; simpa using q1.symm
    subst hcc
    have fin : ∀ {p : Int} {s t : List UInt8}, (-12 ≤ p ∧ p ≤ 23) → pn p ++ t = s → (oneJ p t).2 = true → noteOk (oneJ p t).1 = true ∧ noteT (oneJ p t).1 = s := by
      intro p s t hp hs ht
      obtain ⟨n, e, hn, hr⟩ := oneJ_back ht
      rw [e]
      refine ⟨by unfold noteOk; simp; omega, ?_⟩
      unfold noteT
      dsimp only
      rw [← hr]; exact hs
    by_cases h44 : r.head? = some 44
    · rw [if_pos h44] at h ⊢
      obtain ⟨t, rfl⟩ : ∃ t, r = 44 :: t := by
        cases r with
        | nil => cases h44
        | cons y t => simp only [List.head?_cons, Option.some.injEq] at h44; exact ⟨t, by rw [h44]⟩
      exact fin (by omega) (by rw [q3]; rfl) h
    rw [if_neg h44] at h ⊢
    by_cases h39 : r.head? = some 39
    · rw [if_pos h39] at h ⊢
      obtain ⟨t, rfl⟩ : ∃ t, r = 39 :: t := by
        cases r with
        | nil => cases h39
        | cons y t => simp only [List.head?_cons, Option.some.injEq] at h39; exact ⟨t, by rw [h39]⟩
      exact fin (by omega) (by rw [q4]; rfl) h
    · rw [if_neg h39] at h ⊢
      exact fin (by omega) (by rw [n5]; rfl) h
theorem itoa_num {n : Int} (h : 1 ≤ n ∧ n ≤ 64) : readDec (itoa n) = (n, true) := readDec_num ⟨rfl, by have := dig_len 1 n.natAbs (by omega); omega⟩
theorem itoa_dig {n : Int} (h : 1 ≤ n ∧ n ≤ 64) : ∃ c t, itoa n = c :: t ∧ (c :: t).all dgt = true := by
  obtain ⟨q1, q2, q3, q4⟩ := dig_val n.natAbs
  obtain ⟨c, t, e, _⟩ := dig_head n.natAbs
  rw [itoa_abs, if_neg (by omega), e]
  rw [e] at q2
  exact ⟨c, t, rfl, q2⟩
theorem oneJ_text {p n : Int} (h : 1 ≤ n ∧ n ≤ 64) : oneJ p (if n ≠ 1 then itoa n else []) = ((p, n), true) := by
  unfold oneJ
  by_cases h1 : n = 1
  · subst h1; rfl
  · rw [if_pos h1]
    obtain ⟨c, t, e, _⟩ := itoa_dig h
    rw [if_neg (by rw [e]; simp), itoa_num h, if_pos ⟨rfl, h1, h.1, h.2⟩]
/-- A pitch's name: a tone's, and what stands behind it. -/
theorem pn_split {p : Int} (h : -12 ≤ p ∧ p ≤ 23) : ∃ c s, pn p = c :: s ∧ 0 ≤ nmd c ∧ dgt c = false ∧ c ≠ 32 ∧ c ≠ 45 ∧ ((s = [44] ∧ nmd c - 12 = p) ∨ (s = [39] ∧ nmd c + 12 = p) ∨ (s = [] ∧ nmd c = p)) := by
  by_cases h1 : p < 0
  · obtain ⟨c, q1, q2, q3, q4, q5, q6, q7⟩ := name_eq (k := p + 12) ⟨by omega, by omega⟩
    rw [show p + 12 - 12 = p by omega] at q3
    exact ⟨c, [44], q3, by omega, q5, q6, q7, .inl ⟨rfl, by omega⟩⟩
  · by_cases h2 : p < 12
    · obtain ⟨c, q1, q2, q3, q4, q5, q6, q7⟩ := name_eq (k := p) ⟨by omega, by omega⟩
      exact ⟨c, [], q1, by omega, q5, q6, q7, .inr (.inr ⟨rfl, q2⟩)⟩
    · obtain ⟨c, q1, q2, q3, q4, q5, q6, q7⟩ := name_eq (k := p - 12) ⟨by omega, by omega⟩
      rw [show p - 12 + 12 = p by omega] at q4
      exact ⟨c, [39], q4, by omega, q5, q6, q7, .inr (.inl ⟨rfl, by omega⟩)⟩
theorem dgt_ne {c d : UInt8} (h : dgt c = true) (hd : dgt d = false) : c ≠ d := by rintro rfl; rw [h] at hd; cases hd
theorem oneR_44 (c : UInt8) (t : List UInt8) (h : ¬ nmd c < 0) : oneR (c :: 44 :: t) = oneJ (nmd c - 12) t := by
  simp only [oneR]; rw [if_neg h, if_pos (by simp)]; rfl
theorem oneR_39 (c : UInt8) (t : List UInt8) (h : ¬ nmd c < 0) : oneR (c :: 39 :: t) = oneJ (nmd c + 12) t := by
  simp only [oneR]; rw [if_neg h, if_neg (by simp), if_pos (by simp)]; rfl
theorem oneR_no (c : UInt8) (t : List UInt8) (h : ¬ nmd c < 0) (h1 : ¬ t.head? = some 44) (h2 : ¬ t.head? = some 39) : oneR (c :: t) = oneJ (nmd c) t := by
  simp only [oneR]; rw [if_neg h, if_neg h1, if_neg h2]
theorem oneR_text {x : TNote} (h : noteOk x = true) : oneR (noteT x) = (x, true) := by
  obtain ⟨h1, h2⟩ := note_ok h
  obtain ⟨c, s, e, q1, q2, q3, q4, q5⟩ := pn_split h1
  have hJ := oneJ_text (p := x.1) h2
  have hT : noteT x = pn x.1 ++ if x.2 ≠ 1 then itoa x.2 else [] := rfl
  have hne : ∀ d : UInt8, dgt d = false → ¬ (if x.2 ≠ 1 then itoa x.2 else []).head? = some d := by
    intro d hd
    split
    · obtain ⟨c2, t, e2, hall⟩ := itoa_dig h2
      rw [e2]
      intro e3
      simp only [List.head?_cons, Option.some.injEq] at e3
      rw [List.all_cons, Bool.and_eq_true] at hall
      exact dgt_ne hall.1 hd e3
    · simp
  rw [hT, e]
  generalize (if x.2 ≠ 1 then itoa x.2 else []) = t at *
  rcases q5 with ⟨rfl, hp⟩ | ⟨rfl, hp⟩ | ⟨rfl, hp⟩
  · exact (oneR_44 c t (by omega)).trans (by rw [hp]; exact hJ)
  · exact (oneR_39 c t (by omega)).trans (by rw [hp]; exact hJ)
  · exact (oneR_no c t (by omega) (hne 44 (by decide)) (hne 39 (by decide))).trans (by rw [hp]; exact hJ)
theorem noteT_clean {x : TNote} (h : noteOk x = true) : (32 : UInt8) ∉ noteT x ∧ noteT x ≠ [] := by
  obtain ⟨h1, h2⟩ := note_ok h
  obtain ⟨c, s, e, q1, q2, q3, q4, q5⟩ := pn_split h1
  unfold noteT
  rw [e]
  refine ⟨?_, by simp⟩
  intro hm
  have hs : (32 : UInt8) ∉ s := by rcases q5 with ⟨rfl, _⟩ | ⟨rfl, _⟩ | ⟨rfl, _⟩ <;> decide
  rw [List.cons_append, List.mem_cons, List.mem_append] at hm
  rcases hm with hm | hm | hm
  · exact q3 hm.symm
  · exact hs hm
  · split at hm
    · obtain ⟨c2, t, e2, hall⟩ := itoa_dig h2
      rw [e2] at hm
      have := List.all_eq_true.1 hall _ hm
      exact absurd this (by decide)
    · cases hm
end Go.Ab
/- Melodies read from their texts (own text). -/
set_option linter.unusedVariables false
set_option linter.unusedSimpArgs false
namespace Go.Ab
open Go.RowKit
open Go.Lib (itoa decDigits join)
def digs : List UInt8 := [48, 49, 50, 51, 52, 53, 54, 55, 56, 57]
theorem digs_dgt : ∀ c : Fin 256, digs.contains (UInt8.ofNat c.val) = dgt (UInt8.ofNat c.val) := by decide +kernel
theorem digs_eq (c : UInt8) : digs.contains c = dgt c := by
  have := digs_dgt ⟨c.toNat, UInt8.toNat_lt c⟩
  rwa [show UInt8.ofNat (⟨c.toNat, UInt8.toNat_lt c⟩ : Fin 256).val = c from UInt8.ofNat_toNat] at this
theorem trim_eq (x : List UInt8) (hx : x.length ≤ 9223372036854775807) : F_trimRight x digs = some (Go.Lib.trimRightS x digs) := by
  unfold F_trimRight
  exact need_true ⟨hx, by decide, by decide⟩
theorem trim_sub (x : List UInt8) : ∃ t, x = Go.Lib.trimRightS x digs ++ t := by
  unfold Go.Lib.trimRightS
  have h := List.takeWhile_append_dropWhile (p := (digs.contains ·)) (l := x.reverse)
  have h2 := congrArg List.reverse h
  rw [List.reverse_append, List.reverse_reverse] at h2
  exact ⟨_, h2.symm⟩
theorem trim_pn {p : Int} (h : -12 ≤ p ∧ p ≤ 23) {t : List UInt8} (ht : t.all dgt = true) : Go.Lib.trimRightS (pn p ++ t) digs = pn p := by
  obtain ⟨c, s, e, q1, q2, q3, q4, q5⟩ := pn_split h
  have hlast : ∃ y u, (pn p).reverse = y :: u ∧ dgt y = false := by
    rw [e]
    rcases q5 with ⟨rfl, _⟩ | ⟨rfl, _⟩ | ⟨rfl, _⟩
    · exact ⟨44, [c], rfl, by decide⟩
    · exact ⟨39, [c], rfl, by decide⟩
    · exact ⟨c, [], rfl, q2⟩
  obtain ⟨y, u, hy, hd⟩ := hlast
  unfold Go.Lib.trimRightS
  rw [List.reverse_append, List.dropWhile_append_of_pos (by
    intro a ha
    rw [digs_eq]
    exact List.all_eq_true.1 ht a (List.mem_reverse.1 ha)), hy, List.dropWhile_cons, if_neg (by rw [digs_eq, hd]; decide), ← hy, List.reverse_reverse]
/-- The pitch of a name, as the program finds it. -/
noncomputable def pnm (x : List UInt8) : Int × Bool := (F_impl_pitchNamed x).getD (0, false)
theorem pnm_eq (x : List UInt8) : F_impl_pitchNamed x = some (pnm x) := by
  have key : ∃ r, F_impl_least (-12) 23 x = some r ∧ True := by
    unfold F_impl_least
    refine loop_mu (fun p => -12 ≤ p ∧ p ≤ 24) (fun p => (24 - p).toNat) (by decide) (by unfold lim; decide) ?_
    intro p k hp hk
    simp only [F_impl_least_l0]
    by_cases h : p ≤ 23
    · rw [decide_eq_true h, bif_t]
      unfold F_impl_pitchNamed_1
      rw [(pitch_eq (p := p) ⟨hp.1, h⟩).2.1, Option.bind_some, Option.bind_some]
      by_cases hx : pn p = x
      · rw [decide_eq_true hx, bif_t]; exact ⟨_, rfl, trivial⟩
      · rw [decide_eq_false hx, bif_f, w64_id (by omega)]
        exact hk _ (by omega) (by omega)
    · rw [decide_eq_false h, bif_f]; exact ⟨_, rfl, trivial⟩
  obtain ⟨r, hr, _⟩ := key
  have : ∃ q, F_impl_pitchNamed x = some q := by unfold F_impl_pitchNamed; rw [hr]; exact ⟨_, rfl⟩
  obtain ⟨q, hq⟩ := this
  rw [hq]; unfold pnm; rw [hq]; rfl
theorem pnm_all : ∀ k : Fin 36, F_impl_pitchNamed ((F_impl_pitchText ((k.val : Int) - 12)).getD []) = some ((k.val : Int) - 12, true) := by decide +kernel
theorem pnm_pn {p : Int} (h : -12 ≤ p ∧ p ≤ 23) : pnm (pn p) = (p, true) := by
  have := pnm_all ⟨(p + 12).toNat, by omega⟩
  have e : (((⟨(p + 12).toNat, by omega⟩ : Fin 36).val : Int) - 12) = p := by show ((p + 12).toNat : Int) - 12 = p; omega
  rw [e] at this
  unfold pnm pn
  rw [this]; rfl
theorem pnm_nil : (pnm []).2 = false := by
  have : F_impl_pitchNamed [] = some (0, false) := by decide +kernel
  unfold pnm; rw [this]; rfl
/-- One note, as the program reads it. -/
noncomputable def gN (x : List UInt8) : TNote := ((pnm (Go.Lib.trimRightS x digs)).1, if Go.Lib.trimRightS x digs ≠ x then (readDec (x.drop (Go.Lib.trimRightS x digs).length)).1 else 1)
noncomputable def gOk (x : List UInt8) : Bool := (pnm (Go.Lib.trimRightS x digs)).2
theorem g_text {x : TNote} (h : noteOk x = true) : gOk (noteT x) = true ∧ gN (noteT x) = x := by
  obtain ⟨h1, h2⟩ := note_ok h
  have ht : (if x.2 ≠ 1 then itoa x.2 else []).all dgt = true := by
    split
    · obtain ⟨c, t, e, hall⟩ := itoa_dig h2
      rw [e]; exact hall
    · rfl
  have e1 : Go.Lib.trimRightS (noteT x) digs = pn x.1 := trim_pn h1 ht
  unfold gOk gN
  rw [e1, pnm_pn h1]
  refine ⟨rfl, ?_⟩
  have e2 : (noteT x).drop (pn x.1).length = if x.2 ≠ 1 then itoa x.2 else [] := by unfold noteT; rw [List.drop_left]
  rw [e2]
  by_cases hone : x.2 = 1
  · have e3 : noteT x = pn x.1 := by unfold noteT; rw [if_neg (fun h => h hone), List.append_nil]
    rw [e3, if_neg (fun h => h rfl)]
    show (x.1, (1 : Int)) = x
    rw [← hone]
  · rw [if_pos hone, itoa_num h2, if_pos ?_]
    intro e3
    obtain ⟨c, t, e4, _⟩ := itoa_dig h2
    unfold noteT at e3
    rw [if_pos hone, e4] at e3
    have := congrArg List.length e3
    simp at this
/-- All notes, as the reference reads them. -/
noncomputable def allN (L : List (List UInt8)) : Option (List TNote) := if L.all (fun x => (oneR x).2) = true then some (L.map fun x => (oneR x).1) else none
noncomputable def rMel (s : List UInt8) : List TNote × Bool := if s = [45] then ([], true) else match allN (spl 32 s) with
  | some m => if melOk m = true then (m, true) else ([], false)
  | none => ([], false)
theorem l09Read_eq (s : List UInt8) (hs : s.length ≤ 1048576) : F_spec_l09Read s = some (rMel s) := by
  unfold F_spec_l09Read rMel
  by_cases h45 : s = [45]
  · rw [decide_eq_true h45, bif_t, if_pos h45]
  rw [decide_eq_false h45, bif_f, if_neg h45]
  have hsp : F_spec_l01Split s 32 = some (spl 32 s) := Split_eq s 32 (by omega)
  rw [hsp, Option.bind_some]
  have hm : ∀ x ∈ spl 32 s, x.length ≤ 1048576 := fun x hx => by have := (spl_sum 32 s x hx).1; omega
  have hl := spl_len 32 s
  generalize spl 32 s = L at *
  suffices H : ∃ r, loop (F_spec_l09Read_l0 L) (0, []) = some r ∧ r = (match allN L with
      | some m => if melOk m = true then (m, true) else ([], false)
      | none => ([], false)) by
    obtain ⟨r, e, hr⟩ := H
    rw [e, hr]
  refine loop_ex (L := L) (fun i st => st.1 = (i : Int) ∧ st.2 = (L.take i).map (fun x => (oneR x).1) ∧ (L.take i).all (fun x => (oneR x).2) = true) (by omega) ⟨rfl, rfl, rfl⟩ ?_ ?_
  · rintro i ⟨j, acc⟩ k x hx hi ⟨rfl, hacc, hok⟩ hk
    dsimp only at hacc hok
    subst hacc
    have hlt := get_lt hx
    simp only [F_spec_l09Read_l0, int_lt hlt, ix_get hx, Option.bind_some, bif_t, w64_succ hi, ReadOne_eq x (by have := hm x (get_mem hx); omega)]
    cases h2 : (oneR x).2
    · rw [Bool.not_false, bif_t]
      have : ¬ L.all (fun x => (oneR x).2) = true := fun h => by
        have := List.all_eq_true.1 h x (get_mem hx)
        rw [h2] at this; cases this
      unfold allN
      rw [if_neg this]
      exact ⟨_, rfl, rfl⟩
    · rw [Bool.not_true, bif_f, need_true (p := room (((L.take i).map (fun x => (oneR x).1)).length + [(oneR x).1].length) 16) (show room (((L.take i).map (fun x => (oneR x).1)).length + 1) 16 by rw [List.length_map, List.length_take]; exact ⟨by omega, by omega⟩)]
      refine hk _ ⟨rfl, ?_, ?_⟩
      · dsimp only; rw [take_succ hx, List.map_append]; rfl
      · rw [take_succ hx, List.all_append, hok]; simp [h2]
  · rintro ⟨j, acc⟩ k ⟨rfl, hacc, hok⟩
    dsimp only at hacc hok
    rw [take_all (Nat.le_refl _)] at hacc hok
    subst hacc
    simp only [F_spec_l09Read_l0, int_lt_self, bif_f]
    rw [l09Ok_eq _ (by rw [List.length_map]; omega), Option.bind_some]
    unfold allN
    rw [if_pos hok]
    dsimp only
    cases melOk (L.map fun x => (oneR x).1)
    · exact ⟨_, rfl, rfl⟩
    · exact ⟨_, rfl, rfl⟩
theorem MelodyText_no {m : List TNote} (h : melOk m = false) (hl : m.length ≤ 9223372036854775807) : F_impl_MelodyText m = some [] := by
  unfold F_impl_MelodyText
  rw [ValidMelody_eq m hl, h]; rfl
theorem allN_text {m : List TNote} (h : ∀ x ∈ m, noteOk x = true) : allN (m.map noteT) = some m := by
  unfold allN
  rw [if_pos (by
    rw [List.all_eq_true]
    intro y hy
    obtain ⟨x, hx, rfl⟩ := List.mem_map.1 hy
    rw [oneR_text (h x hx)]), List.map_map]
  congr 1
  have : ∀ x ∈ m, ((fun x => (oneR x).1) ∘ noteT) x = x := fun x hx => by
    show (oneR (noteT x)).1 = x
    rw [oneR_text (h x hx)]
  calc m.map ((fun x => (oneR x).1) ∘ noteT) = m.map id := List.map_congr_left this
    _ = m := List.map_id m
theorem spl_mel {m : List TNote} (h : melOk m = true) (hne : m ≠ []) : melT m = join (m.map noteT) [32] ∧ spl 32 (melT m) = m.map noteT := by
  have h1 := (mel_ok h).1
  have e : melT m = join (m.map noteT) [32] := by unfold melT; rw [if_neg (fun h => hne (List.eq_nil_of_length_eq_zero h))]
  refine ⟨e, ?_⟩
  rw [e]
  refine spl_join (by simpa using hne) ?_
  intro y hy
  obtain ⟨x, hx, rfl⟩ := List.mem_map.1 hy
  exact (noteT_clean (h1 x hx)).1
/-- A valid melody's text reads as this melody. -/
theorem rMel_text {m : List TNote} (h : melOk m = true) (hne : m ≠ []) (h45 : melT m ≠ [45]) : rMel (melT m) = (m, true) := by
  unfold rMel
  rw [if_neg h45, (spl_mel h hne).2, allN_text (mel_ok h).1]
  simp only [h, if_true]
/-- What reads as a melody is its text. -/
theorem rMel_back {s : List UInt8} (h45 : s ≠ [45]) {m : List TNote} (h : rMel s = (m, true)) : melOk m = true ∧ m.map noteT = spl 32 s ∧ m ≠ [] ∧ melT m = s := by
  unfold rMel at h
  rw [if_neg h45] at h
  have hspl := join_spl 32 s
  have hsne := spl_ne 32 s
  unfold allN at h
  by_cases hall : (spl 32 s).all (fun x => (oneR x).2) = true
  · rw [if_pos hall] at h
    dsimp only at h
    by_cases hok : melOk ((spl 32 s).map fun x => (oneR x).1) = true
    · rw [if_pos hok] at h
      simp only [Prod.mk.injEq, and_true] at h
      subst h
      have hm : ((spl 32 s).map fun x => (oneR x).1).map noteT = spl 32 s := by
        rw [List.map_map]
        have : ∀ x ∈ spl 32 s, (noteT ∘ fun x => (oneR x).1) x = x := fun x hx => (oneR_back (List.all_eq_true.1 hall x hx)).2
        calc (spl 32 s).map (noteT ∘ fun x => (oneR x).1) = (spl 32 s).map id := List.map_congr_left this
          _ = spl 32 s := List.map_id _
      have hne : ((spl 32 s).map fun x => (oneR x).1) ≠ [] := by simpa using hsne
      refine ⟨hok, hm, hne, ?_⟩
      rw [(spl_mel hok hne).1, hm, hspl]
    · rw [if_neg hok] at h; simp at h
  · rw [if_neg hall] at h; simp at h
theorem rMel_no {s : List UInt8} (h : (rMel s).2 = false) : rMel s = ([], false) := by
  unfold rMel at h ⊢
  split
  · rename_i h45; rw [if_pos h45] at h; cases h
  · rename_i h45
    rw [if_neg h45] at h
    split
    · rename_i m hm
      rw [hm] at h
      dsimp only at h
      split
      · rename_i hok; rw [if_pos hok] at h; cases h
      · rfl
    · rfl
theorem ReadMelody_eq (s : List UInt8) (hs : s.length ≤ 1048576) : F_impl_ReadMelody s = some (rMel s) := by
  unfold F_impl_ReadMelody
  by_cases h45 : s = [45]
  · rw [decide_eq_true h45, bif_t]; unfold rMel; rw [if_pos h45]
  rw [decide_eq_false h45, bif_f]
  have hsN : F_splitN s [32] 49 = some (splN 32 (min 49 (s.length + 1) - 1) s) := F_splitN_eq (n := 49) 32 (by omega) (by decide) (by decide)
  rw [hsN, Option.bind_some]
  generalize hk0 : min 49 (s.length + 1) - 1 = k0
  have hcnt : s.count 32 ≤ s.length := List.count_le_length
  have hlen := splN_count 32 s k0
  have hlen2 := spl_count 32 s
  have hm : ∀ x ∈ splN 32 k0 s, x.length ≤ 1048576 := fun x hx => by have := splN_small 32 s k0 x hx; omega
  have hneK := splN_ne 32 k0 s
  have hfull : s.count 32 ≤ 48 → splN 32 k0 s = spl 32 s := fun h => splN_all 32 s k0 (by omega)
  have hnil : s = [] → splN 32 k0 s = [[]] := by
    rintro rfl
    cases k0 <;> simp [splN]
  -- what the loop gives
  have H : ∃ r, loop (F_impl_ReadMelody_l2 s (splN 32 k0 s)) (0, []) = some r ∧ (r = ([], false) ∨ ∃ m, m ≠ [] ∧ m.length ≤ 49 ∧ melOk m = true ∧ melT m = s ∧ r = (m, true)) ∧ ((splN 32 k0 s).all gOk = true → s ≠ [] → melOk ((splN 32 k0 s).map gN) = true → melT ((splN 32 k0 s).map gN) = s → r = ((splN 32 k0 s).map gN, true)) := by
    generalize hK : splN 32 k0 s = K at *
    refine loop_ex (L := K) (fun i st => st.1 = (i : Int) ∧ st.2 = (K.take i).map gN ∧ (K.take i).all gOk = true) (by omega) ⟨rfl, rfl, rfl⟩ ?_ ?_
    · rintro i ⟨j, acc⟩ k x hx hi ⟨rfl, hacc, hok⟩ hk
      dsimp only at hacc hok
      subst hacc
      have hlt := get_lt hx
      have hxl := hm x (get_mem hx)
      obtain ⟨t, ht⟩ := trim_sub x
      have htl := congrArg List.length ht
      rw [List.length_append] at htl
      have hT : F_trimRight x [48, 49, 50, 51, 52, 53, 54, 55, 56, 57] = some (Go.Lib.trimRightS x digs) := trim_eq x (by omega)
      have hroom : ∀ n : TNote, room (((K.take i).map gN).length + [n].length) 16 := by
        intro n
        rw [List.length_map, List.length_take]
        show room (min i K.length + 1) 16
        exact ⟨by omega, by omega⟩
      have go : ∀ q : Int, q = (gN x).2 → ∃ r, F_impl_ReadMelody_j3 (pnm (Go.Lib.trimRightS x digs)) (i : Int) ((K.take i).map gN) k q = some r ∧ (r = ([], false) ∨ ∃ m, m ≠ [] ∧ m.length ≤ 49 ∧ melOk m = true ∧ melT m = s ∧ r = (m, true)) ∧ (K.all gOk = true → s ≠ [] → melOk (K.map gN) = true → melT (K.map gN) = s → r = (K.map gN, true)) := by
        intro q hq
        unfold F_impl_ReadMelody_j3
        cases hp : (pnm (Go.Lib.trimRightS x digs)).2
        · rw [Bool.not_false, bif_t]
          refine ⟨_, rfl, .inl rfl, fun hall => ?_⟩
          have := List.all_eq_true.1 hall x (get_mem hx)
          unfold gOk at this
          rw [hp] at this; cases this
        · rw [Bool.not_true, bif_f, need_true (hroom _), w64_succ hi]
          refine hk _ ⟨rfl, ?_, ?_⟩
          · dsimp only
            rw [take_succ hx, List.map_append, hq]; rfl
          · rw [take_succ hx, List.all_append, hok]; simp [gOk, hp]
      simp only [F_impl_ReadMelody_l2, int_lt hlt, ix_get hx, Option.bind_some, bif_t, hT, pnm_eq]
      by_cases hne : Go.Lib.trimRightS x digs ≠ x
      · have hs2 : sub x ((Go.Lib.trimRightS x digs).length : Int) (x.length : Int) = x.drop (Go.Lib.trimRightS x digs).length := by rw [sub_nat, List.take_of_length_le (Nat.le_refl _)]
        have hrd : F_readDec (x.drop (Go.Lib.trimRightS x digs).length) = some (readDec (x.drop (Go.Lib.trimRightS x digs).length)) := by unfold F_readDec; exact need_true (by rw [List.length_drop]; omega)
        rw [decide_eq_true hne, bif_t, need_true (by omega), hs2, hrd, Option.bind_some]
        exact go _ (by unfold gN; dsimp only; rw [if_pos hne])
      · rw [decide_eq_false hne, bif_f]
        exact go _ (by unfold gN; dsimp only; rw [if_neg hne])
    · rintro ⟨j, acc⟩ k ⟨rfl, hacc, hok⟩
      dsimp only at hacc hok
      rw [take_all (Nat.le_refl _)] at hacc hok
      subst hacc
      simp only [F_impl_ReadMelody_l2, int_lt_self, bif_f]
      have hmne : K.map gN ≠ [] := by simpa using hneK
      cases hv : melOk (K.map gN)
      · rw [MelodyText_no hv (by rw [List.length_map]; omega), Option.bind_some]
        by_cases hs0 : s = []
        · exfalso
          have hK2 := hnil hs0
          rw [hK2] at hok
          simp only [List.all_cons, List.all_nil, Bool.and_true] at hok
          unfold gOk at hok
          have : Go.Lib.trimRightS [] digs = [] := rfl
          rw [this, pnm_nil] at hok
          cases hok
        · have e : ([] : List UInt8) ≠ s := fun e => hs0 e.symm
          rw [decide_eq_true e, bif_t]
          exact ⟨_, rfl, .inl rfl, fun _ _ h => by cases h⟩
      · rw [MelodyText_eq _ hv, Option.bind_some]
        by_cases e : melT (K.map gN) = s
        · rw [decide_eq_false (fun h => h e), bif_f]
          exact ⟨_, rfl, .inr ⟨_, hmne, by rw [List.length_map]; omega, hv, e, rfl⟩, fun _ _ _ _ => rfl⟩
        · rw [decide_eq_true e, bif_t]
          exact ⟨_, rfl, .inl rfl, fun _ _ _ h => absurd h e⟩
  obtain ⟨r, hr, h1, h2⟩ := H
  rw [hr]
  congr 1
  cases hb : (rMel s).2
  · rw [rMel_no hb]
    rcases h1 with h1 | ⟨m, hne, hml, hv, ht, rfl⟩
    · exact h1
    · have := rMel_text hv hne (by rw [ht]; exact h45)
      rw [ht] at this
      rw [this] at hb; cases hb
  · have hpair : rMel s = ((rMel s).1, true) := by rw [← hb]
    obtain ⟨hok, hmap, hne, ht⟩ := rMel_back h45 hpair
    generalize (rMel s).1 = m at *
    rw [hpair]
    have hml := (mel_ok hok).2
    have hc : (spl 32 s).length ≤ 48 := by rw [← hmap, List.length_map]; exact hml
    have hK : splN 32 k0 s = m.map noteT := by rw [hfull (by omega), hmap]
    have hg : (m.map noteT).map gN = m := by
      rw [List.map_map]
      have : ∀ x ∈ m, (gN ∘ noteT) x = x := fun x hx => (g_text ((mel_ok hok).1 x hx)).2
      calc m.map (gN ∘ noteT) = m.map id := List.map_congr_left this
        _ = m := List.map_id m
    have hs0 : s ≠ [] := by
      rintro rfl
      cases m with
      | nil => exact hne rfl
      | cons x m =>
        have : (spl 32 ([] : List UInt8)) = [[]] := rfl
        rw [this, List.map_cons] at hmap
        have hx := (noteT_clean ((mel_ok hok).1 x (by simp))).2
        injection hmap with h1 h2
        exact hx h1
    rw [hK, hg] at h2
    refine h2 ?_ hs0 hok ht
    rw [List.all_eq_true]
    intro y hy
    obtain ⟨x, hx, rfl⟩ := List.mem_map.1 hy
    exact (g_text ((mel_ok hok).1 x hx)).1
end Go.Ab
/- ValidBlock: the program's and the reference's (own text). -/
set_option linter.unusedVariables false
set_option linter.unusedSimpArgs false
namespace Go.Ab
open Go.RowKit
section
variable {α : Type}
/-- Each is right, and each is right behind the one before. -/
def adj (one : α → Bool) (bef : α → α → Bool) : Option α → List α → Bool
  | _, [] => true
  | none, x :: t => one x && adj one bef (some x) t
  | some q, x :: t => one x && (bef q x && adj one bef (some x) t)
def prevA (A : List α) : Nat → Option α
  | 0 => none
  | n + 1 => A[n]?
theorem loop_adj {A : List α} {one : α → Bool} {bef : α → α → Bool} {fin : Bool} {body : (Int → Option Bool) → Int → Option Bool} (hA : A.length ≤ 9223372036854775807)
    (first : ∀ k a, A[0]? = some a → body k 0 = bif one a then k 1 else some false)
    (more : ∀ (i : Nat) k q a, A[i]? = some q → A[i + 1]? = some a → i + 1 < 9223372036854775807 → body k ((i + 1 : Nat) : Int) = bif one a then (bif bef q a then k ((i + 2 : Nat) : Int) else some false) else some false)
    (done : ∀ k, body k (A.length : Int) = some fin) : loop body 0 = some (adj one bef none A && fin) := by
  have := loop_at (L := A) (body := body) (fun i => adj one bef (prevA A i) (A.drop i) && fin) hA ?_ ?_
  · exact this
  · intro i k a ha hi hk
    rw [drop_cons ha]
    cases i with
    | zero =>
      have h1 := first k a ha
      have hp : prevA A 1 = some a := ha
      rw [hp] at hk
      show body k 0 = _
      rw [h1]
      simp only [prevA, adj]
      cases one a
      · rfl
      · exact hk
    | succ n =>
      obtain ⟨q, hq⟩ := get_some (L := A) (n := n) (by have := get_lt ha; omega)
      have h1 := more n k q a hq ha hi
      have hp : prevA A (n + 1 + 1) = some a := ha
      rw [hp] at hk
      rw [h1]
      simp only [prevA, hq, adj]
      cases one a
      · rfl
      · cases bef q a
        · rfl
        · exact hk
  · intro k
    rw [done, List.drop_length]
    cases prevA A A.length <;> simp [adj]
end
theorem byteIdx_pos (s : List UInt8) (c : UInt8) : 0 ≤ byteIdx s c ↔ c ∈ s := by
  unfold byteIdx
  cases h : s.findIdx? (· == c) with
  | none =>
    rw [List.findIdx?_eq_none_iff] at h
    constructor
    · intro h2; exact absurd h2 (by show ¬ (0 : Int) ≤ -1; omega)
    · intro h2; have := h c h2; simp at this
  | some i =>
    constructor
    · intro _
      obtain ⟨h1, h2, _⟩ := List.findIdx?_eq_some_iff_getElem.1 h
      have h2 : s[i] = c := by simpa using h2
      rw [← h2]; exact List.getElem_mem h1
    · intro _; show (0 : Int) ≤ (i : Int); omega
theorem Contains_byte (s : List UInt8) (c : UInt8) : F_strings_Contains s [c] = some (decide (c ∈ s)) := by
  unfold F_strings_Contains F_strings_Index F_stringslite_Index F_stringslite_Index_j0 F_stringslite_IndexByte
  by_cases h : [c] = s
  · subst h; simp
  · simp [h, ix, byteIdx_pos]
/-- A right block. -/
def blkOk (b : TBlock) : Bool := nameOk b.1 && (nameOk b.2.1 && (decide ((b.2.2.length : Int) ≤ 400) && !decide ((10 : UInt8) ∈ b.2.2)))
theorem l29One_eq (b : TBlock) (h1 : b.1.length ≤ 9223372036854775807) (h2 : b.2.1.length ≤ 9223372036854775807) (h3 : b.2.2.length ≤ 9223372036854775807) : F_spec_l29One b = some (blkOk b) := by
  unfold F_spec_l29One
  have := loop_sfx (body := F_spec_l29One_l0 b) (L := b.2.2) (fun t => !decide ((10 : UInt8) ∈ t) && (nameOk b.1 && (nameOk b.2.1 && decide ((b.2.2.length : Int) ≤ 400)))) h3 ?_ ?_
  · rw [this]
    unfold blkOk
    congr 1
    cases nameOk b.1 <;> cases nameOk b.2.1 <;> cases decide ((b.2.2.length : Int) ≤ 400) <;> simp
  · intro i k a t ha hi hk
    simp only [F_spec_l29One_l0, int_lt (get_lt ha), bif_t, ix_get ha, Option.bind_some, w64_succ hi, bif_dec]
    split
    · rename_i h
      have : a = 10 := by
        apply UInt8.toNat_inj.1
        show a.toNat = 10
        omega
      subst this
      simp
    · rename_i h
      have : ¬ a = 10 := by rintro rfl; exact h rfl
      rw [hk]
      have e : ((10 : UInt8) ∈ a :: t) = ((10 : UInt8) ∈ t) := by
        simp only [List.mem_cons, eq_iff_iff, or_iff_right_iff_imp]
        intro e; exact absurd e.symm this
      simp only [e]
  · intro k
    simp only [F_spec_l29One_l0, int_lt_self, bif_f, l01Name_eq b.1 h1, l01Name_eq b.2.1 h2, Option.bind_some]
    cases nameOk b.1 <;> cases nameOk b.2.1 <;> simp
theorem ValidBlock_eq (b : TBlock) (h1 : b.1.length ≤ 9223372036854775807) (h2 : b.2.1.length ≤ 9223372036854775807) : F_impl_ValidBlock b = some (blkOk b) := by
  unfold F_impl_ValidBlock blkOk
  simp only [IsName_eq b.1 h1, IsName_eq b.2.1 h2, Contains_byte, Option.bind_some]
  cases nameOk b.1 <;> cases nameOk b.2.1 <;> cases decide ((b.2.2.length : Int) ≤ 400) <;> rfl
end Go.Ab
/- ValidBlocks: the program's and the reference's (own text). -/
set_option linter.unusedVariables false
set_option linter.unusedSimpArgs false
namespace Go.Ab
open Go.RowKit
def cmpS (a b : List UInt8) : Int := if Op.bytesLess a b = true then -1 else if a = b then 0 else 1
theorem Compare_eq (a b : List UInt8) : F_cmp_Compare_string a b = some (cmpS a b) := by
  unfold F_cmp_Compare_string F_cmp_isNaN_string cmpS
  cases h : Op.bytesLess a b <;> by_cases h2 : a = b <;> simp [h2]
theorem Or_eq (x y : Int) : F_cmp_Or_int [x, y] = some (if x = 0 then y else x) := by
  unfold F_cmp_Or_int
  have := loop_sfx (body := F_cmp_Or_int_l0 [x, y]) (L := [x, y]) (fun t => (t.find? (fun z => decide (z ≠ 0))).getD 0) (by simp) ?_ ?_
  · rw [this]
    by_cases h1 : x = 0 <;> by_cases h2 : y = 0 <;> simp [h1, h2]
  · intro i k a t ha hi hk
    simp only [F_cmp_Or_int_l0, int_lt (get_lt ha), bif_t, ix_get ha, Option.bind_some, w64_succ hi, bif_dec, hk]
    by_cases h : a = 0 <;> simp [h]
  · intro k
    simp only [F_cmp_Or_int_l0, int_lt_self, bif_f]
    rfl
/-- How blocks are ordered. -/
def blkBef (a b : TBlock) : Bool := Op.bytesLess a.1 b.1 || (decide (a.1 = b.1) && Op.bytesLess a.2.1 b.2.1)
def blkCmp (a b : TBlock) : Int := if cmpS a.1 b.1 = 0 then cmpS a.2.1 b.2.1 else cmpS a.1 b.1
theorem compareBlocks_eq (a b : TBlock) : F_impl_compareBlocks a b = some (blkCmp a b) := by
  unfold F_impl_compareBlocks blkCmp
  simp only [Compare_eq, Option.bind_some, Or_eq]
theorem cmpS_zero (a b : List UInt8) : cmpS a b = 0 ↔ a = b := by
  unfold cmpS
  by_cases h : Op.bytesLess a b = true
  · rw [if_pos h]
    constructor
    · intro h; omega
    · rintro rfl; rw [bytes_irrefl] at h; cases h
  · rw [if_neg h]
    by_cases h2 : a = b
    · simp [h2]
    · rw [if_neg h2]; constructor
      · intro h; omega
      · intro h; exact absurd h h2
theorem cmpS_neg (a b : List UInt8) : cmpS a b < 0 ↔ Op.bytesLess a b = true := by
  unfold cmpS
  by_cases h : Op.bytesLess a b = true
  · rw [if_pos h]; simp [h]
  · rw [if_neg h]
    constructor
    · intro h3; exfalso; split at h3 <;> omega
    · intro h3; exact absurd h3 h
theorem blkCmp_bef (a b : TBlock) : decide (0 ≤ blkCmp a b) = !blkBef a b := by
  have e : blkBef a b = true ↔ blkCmp a b < 0 := by
    unfold blkBef blkCmp
    by_cases h : a.1 = b.1
    · rw [if_pos ((cmpS_zero _ _).2 h), cmpS_neg, h, bytes_irrefl]; simp
    · rw [if_neg (fun e => h ((cmpS_zero _ _).1 e)), cmpS_neg]; simp [h]
  cases h : blkBef a b
  · exact decide_eq_true (by have : ¬ blkCmp a b < 0 := fun h2 => by rw [e.2 h2] at h; cases h
                             omega)
  · exact decide_eq_false (by have := e.1 h; omega)
theorem l29Before_eq (a b : TBlock) : F_spec_l29Before a b = some (blkBef a b) := by
  unfold F_spec_l29Before blkBef
  cases Op.bytesLess a.1 b.1 <;> by_cases h : a.1 = b.1 <;> simp [h]
abbrev OkBlocks (A : List TBlock) : Prop := OkL OkBlock A
end Go.Ab
/- ValidBlocks: the program's and the reference's (own text). -/
set_option linter.unusedVariables false
set_option linter.unusedSimpArgs false
namespace Go.Ab
open Go.RowKit
def blksOk (A : List TBlock) : Bool := adj blkOk blkBef none A && decide ((A.length : Int) ≤ 32)
theorem int_pos' (n : Nat) : decide ((0 : Int) < ((n + 1 : Nat) : Int)) = true := decide_eq_true (by omega)
theorem ValidBlocks_eq {A : List TBlock} (oA : OkBlocks A) : F_impl_ValidBlocks A = some (blksOk A) := by
  unfold F_impl_ValidBlocks
  rw [bif_dec]
  split
  · rename_i hc
    have : decide ((A.length : Int) ≤ 32) = false := decide_eq_false (by omega)
    simp [blksOk, this]
  · rename_i hc
    have : decide ((A.length : Int) ≤ 32) = true := decide_eq_true (by omega)
    rw [blksOk, this]
    refine loop_adj oA.1 ?_ ?_ ?_
    · intro k a ha
      have o := oA.2 a (get_mem ha)
      have hl : decide ((0 : Int) < (A.length : Int)) = true := decide_eq_true (by have := get_lt ha; omega)
      have hix : ix A 0 = some a := by have := ix_get ha; exact this
      simp only [F_impl_ValidBlocks_l0, hl, bif_t, hix, Option.bind_some, ValidBlock_eq a o.1 o.2.1, Int.lt_irrefl, decide_false, bif_f]
      cases blkOk a <;> rfl
    · intro i k q a hq ha hi
      have o := oA.2 a (get_mem ha)
      simp only [F_impl_ValidBlocks_l0, int_lt (get_lt ha), bif_t, ix_get ha, Option.bind_some, ValidBlock_eq a o.1 o.2.1, int_pos', w64_pred (show i < 9223372036854775807 by omega), ix_get hq, compareBlocks_eq, w64_succ hi, blkCmp_bef]
      cases blkOk a <;> cases blkBef q a <;> rfl
    · intro k
      simp only [F_impl_ValidBlocks_l0, int_lt_self, bif_f]
end Go.Ab
/- The reference's test of a list of blocks (own text). -/
set_option linter.unusedVariables false
set_option linter.unusedSimpArgs false
namespace Go.Ab
open Go.RowKit
theorem l29Ok_eq {A : List TBlock} (oA : OkBlocks A) : F_spec_l29Ok A = some (blksOk A) := by
  unfold F_spec_l29Ok
  refine loop_adj oA.1 ?_ ?_ ?_
  · intro k a ha
    have o := oA.2 a (get_mem ha)
    have hl : decide ((0 : Int) < (A.length : Int)) = true := decide_eq_true (by have := get_lt ha; omega)
    have hix : ix A 0 = some a := by have := ix_get ha; exact this
    simp only [F_spec_l29Ok_l0, hl, bif_t, hix, Option.bind_some, l29One_eq a o.1 o.2.1 o.2.2, Int.lt_irrefl, decide_false, bif_f]
    cases blkOk a <;> rfl
  · intro i k q a hq ha hi
    have o := oA.2 a (get_mem ha)
    simp only [F_spec_l29Ok_l0, int_lt (get_lt ha), bif_t, ix_get ha, Option.bind_some, l29One_eq a o.1 o.2.1 o.2.2, int_pos', w64_pred (show i < 9223372036854775807 by omega), ix_get hq, l29Before_eq, w64_succ hi]
    cases blkOk a <;> cases blkBef q a <;> rfl
  · intro k
    simp only [F_spec_l29Ok_l0, int_lt_self, bif_f]
end Go.Ab
/- LibraryOfBlocks (own text). -/
set_option linter.unusedVariables false
set_option linter.unusedSimpArgs false
namespace Go.Ab
open Go.RowKit
noncomputable def melK : List UInt8 := [109, 101, 108, 111, 100, 121]
noncomputable def lobR : List TBlock → List TNamedMelody → List TNamedMelody × Int
  | [], out => if 12 < out.length then ([], 5) else (out, 0)
  | b :: L, out => if b.1 ≠ [109, 101, 108, 111, 100, 121] then lobR L out else if (rMel b.2.2).2 = true then lobR L (out ++ [(b.2.1, (rMel b.2.2).1)]) else ([], 9)
theorem lob_loop {A : List TBlock} (hA : A.length ≤ 1048576) {body : (Int × List TNamedMelody → Option (List TNamedMelody × Int)) → Int × List TNamedMelody → Option (List TNamedMelody × Int)}
    (more : ∀ (i : Nat) b out k, A[i]? = some b → out.length ≤ i → body k ((i : Int), out) = if b.1 ≠ [109, 101, 108, 111, 100, 121] then k (((i + 1 : Nat) : Int), out) else if (rMel b.2.2).2 = true then k (((i + 1 : Nat) : Int), out ++ [(b.2.1, (rMel b.2.2).1)]) else some ([], 9))
    (done : ∀ out k, body k ((A.length : Int), out) = some (if 12 < out.length then ([], 5) else (out, 0))) : loop body (0, []) = some (lobR A []) := by
  suffices H : ∃ r, loop body (0, []) = some r ∧ r = lobR A [] by
    obtain ⟨r, e, hr⟩ := H
    rw [e, hr]
  refine loop_ex (L := A) (fun i st => st.1 = (i : Int) ∧ st.2.length ≤ i ∧ lobR (A.drop i) st.2 = lobR A []) (by omega) ⟨rfl, by simp, by simp⟩ ?_ ?_
  · rintro i ⟨j, out⟩ k b hb hi ⟨rfl, hl, he⟩ hk
    dsimp only at hl he
    rw [more i b out k hb hl]
    rw [drop_cons hb] at he
    simp only [lobR] at he
    by_cases h1 : b.1 ≠ [109, 101, 108, 111, 100, 121]
    · rw [if_pos h1] at he ⊢
      exact hk _ ⟨rfl, by dsimp only; omega, he⟩
    · rw [if_neg h1] at he ⊢
      by_cases h2 : (rMel b.2.2).2 = true
      · rw [if_pos h2] at he ⊢
        exact hk _ ⟨rfl, by dsimp only; rw [List.length_append, List.length_singleton]; omega, he⟩
      · rw [if_neg h2] at he ⊢
        exact ⟨_, rfl, he⟩
  · rintro ⟨j, out⟩ k ⟨rfl, hl, he⟩
    dsimp only at hl he
    rw [List.drop_length] at he
    rw [done out k]
    exact ⟨_, rfl, he⟩
theorem rMel_len (s : List UInt8) : (rMel s).1.length ≤ 48 := by
  unfold rMel
  split
  · simp
  · split
    · rename_i m hm
      split
      · rename_i hok; exact (mel_ok hok).2
      · simp
    · simp
theorem lobR_len : ∀ (L : List TBlock) (out : List TNamedMelody), (∀ x ∈ out, x.2.length ≤ 48) → (lobR L out).1.length ≤ out.length + L.length ∧ ∀ x ∈ (lobR L out).1, x.2.length ≤ 48
  | [], out, h => by
    simp only [lobR]
    split
    · exact ⟨by simp, fun x hx => by cases hx⟩
    · exact ⟨by simp, h⟩
  | b :: L, out, h => by
    simp only [lobR]
    split
    · have := lobR_len L out h
      rw [List.length_cons]
      exact ⟨by omega, this.2⟩
    · split
      · have := lobR_len L (out ++ [(b.2.1, (rMel b.2.2).1)]) (by
          intro x hx
          rcases List.mem_append.1 hx with hx | hx
          · exact h x hx
          · rw [List.mem_singleton.1 hx]; exact rMel_len _)
        rw [List.length_append, List.length_singleton] at this
        rw [List.length_cons]
        exact ⟨by omega, this.2⟩
      · exact ⟨by simp, fun x hx => by cases hx⟩
theorem core_LibraryOfBlocks (a0 : List TBlock) (o0 : (OkL OkBlock) a0) (s0 : (SmL SmBlock) a0) : ∃ w, F_spec_LibraryOfBlocks a0 = some w ∧ F_impl_LibraryOfBlocks a0 = some w ∧ (SmL CtNamedMelody) w.1 := by
  have hA : a0.length ≤ 1048576 := by have := s0.1; omega
  have ht : ∀ b ∈ a0, b.2.2.length ≤ 1048576 := fun b hb => by have : (b.2.2.length : Int) ≤ 1048576 := (s0.2 b hb).2.2; omega
  unfold F_spec_LibraryOfBlocks F_impl_LibraryOfBlocks
  rw [l29Ok_eq o0, ValidBlocks_eq o0, Option.bind_some, Option.bind_some]
  have small : ∀ {w : List TNamedMelody × Int}, w.1.length ≤ 1048576 → (∀ x ∈ w.1, x.2.length ≤ 48) → (SmL CtNamedMelody) w.1 := by
    intro w h1 h2
    refine ⟨by omega, fun x hx => ⟨trivial, by have := h2 x hx; show (x.2.length : Int) ≤ 1048576; omega, fun _ _ => ⟨trivial, trivial⟩⟩⟩
  cases blksOk a0
  · exact ⟨([], 1), rfl, rfl, small (by simp) (fun x hx => by cases hx)⟩
  rw [Bool.not_true, bif_f, bif_f]
  have hroom : ∀ (out : List TNamedMelody) (n : TNamedMelody), out.length ≤ 1048576 → room (out.length + [n].length) 40 := by
    intro out n h
    show room (out.length + 1) 40
    exact ⟨by omega, by omega⟩
  have h1 : loop (F_spec_LibraryOfBlocks_l0 a0) (0, []) = some (lobR a0 []) := by
    refine lob_loop hA ?_ ?_
    · intro i b out k hb hl
      have hlt := get_lt hb
      have hr := l09Read_eq b.2.2 (ht b (get_mem hb))
      simp only [F_spec_LibraryOfBlocks_l0, int_lt hlt, ix_get hb, Option.bind_some, bif_t, hr, w64_succ (show i < 9223372036854775807 by omega), bif_dec]
      split
      · rfl
      · cases h2 : (rMel b.2.2).2
        · rw [Bool.not_false, bif_t]; rfl
        · rw [Bool.not_true, bif_f, need_true (hroom out _ (by omega))]; rfl
    · intro out k
      simp only [F_spec_LibraryOfBlocks_l0, int_lt_self, bif_f]
      by_cases h : 12 < out.length
      · rw [decide_eq_true (by omega), bif_t, if_pos h]
      · rw [decide_eq_false (by omega), bif_f, if_neg h]
  have h2 : loop (F_impl_LibraryOfBlocks_l0 a0) (0, []) = some (lobR a0 []) := by
    refine lob_loop hA ?_ ?_
    · intro i b out k hb hl
      have hlt := get_lt hb
      have hr := ReadMelody_eq b.2.2 (ht b (get_mem hb))
      simp only [F_impl_LibraryOfBlocks_l0, int_lt hlt, ix_get hb, Option.bind_some, bif_t, hr, w64_succ (show i < 9223372036854775807 by omega), bif_dec]
      split
      · rfl
      · cases h2 : (rMel b.2.2).2
        · rw [Bool.not_false, bif_t]; rfl
        · rw [Bool.not_true, bif_f, need_true (hroom out _ (by omega))]; rfl
    · intro out k
      simp only [F_impl_LibraryOfBlocks_l0, int_lt_self, bif_f]
      by_cases h : 12 < out.length
      · rw [decide_eq_true (by omega), bif_t, if_pos h]
      · rw [decide_eq_false (by omega), bif_f, if_neg h]
  have hl := lobR_len a0 [] (fun x hx => by cases hx)
  exact ⟨lobR a0 [], h1, h2, small (by have := hl.1; simp at this; omega) hl.2⟩
end Go.Ab
