import Derived.Test.YtcklbccpfpnmbaaGreatDoorU6
import Derived.Test.YtcklbccpfpnmbaaGreatDoorPM
set_option linter.unusedVariables false
set_option linter.unusedSimpArgs false
namespace Go.Ab
open Go.RowKit
def SmS (s : List UInt8) : Prop := (s.length : Int) ≤ 1048576
def SmL {α : Type} (P : α → Prop) (L : List α) : Prop := (L.length : Int) ≤ 1048576 ∧ ∀ a ∈ L, P a
theorem a1U {α : Type} {L : List α} {i : Nat} {a : α} : (List.set L i a).length = L.length := List.length_set
theorem a8l {α : Type} {L : List α} {i : Nat} {a : α} (h : i < L.length) : ix (L.set i a) (i : Int) = some a := by rw [c1y, List.getElem?_set_self h]
noncomputable def mt (k : Int) : List UInt8 := (D4 k).getD []
theorem a1e (k : Int) (h1 : 1 ≤ k) (h2 : k ≤ 4611686018427387904) : D4 k = some (mt k) := by
 have key : ∃ r, D4 k = some r ∧ True := by
  unfold D4
  rw [decide_eq_false (by omega), A0]
  refine b5Z (fun s => 0 ≤ s.1 ∧ s.1 + (s.2.length : Int) ≤ 4611686018427387904) (fun s => s.1.toNat) ⟨by dsimp only; omega, by simp; omega⟩ (a7Q (by dsimp only; omega)) ?_
  rintro ⟨v, t⟩ K ⟨q1, q2⟩ hK
  dsimp only at q1 q2 hK
  have hb : ∀ x : Int, (a0d [x]).length = 1 := fun _ => rfl
  simp only [a0c, A4]
  split
  ·rename_i hv
   have e1 : Int.tdiv v 10 = v / 10 := Int.tdiv_eq_ediv_of_nonneg q1
   rw [y1 (by rw [hb]; omega), e1, A9 (by omega)]
   refine hK _ ⟨by dsimp only; omega, ?_⟩ (by dsimp only; omega)
   simp only [List.length_append, hb]
   omega
  ·rw [y1 (by simp only [List.length_cons, List.length_nil]; omega)]
   exact ⟨_, rfl, trivial⟩
 obtain ⟨r, h, _⟩ := key
 rw [mt, h]; rfl
theorem b0S (L : List Int) (hp : (OkL OkI) L) (l : Int) (h0 : 0 ≤ l) (hl : l ≤ 1048576) : ∃ r, O6 L l = some r ∧ (r ≤ l ∧ (0 ≤ r → (SmL (fun _ => True)) L)) := by
 obtain ⟨hL, hs⟩ := hp
 unfold O6
 rw [A9 (by omega)]
 simp only [A4]
 split
 ·exact ⟨_, rfl, by omega, by omega⟩
 ·exact ⟨_, rfl, by omega, fun _ => ⟨by omega, fun a _ => trivial⟩⟩
theorem b1f (L : List Int) (h : (SmL (fun _ => True)) L) : O7 L = some L := by
 have hL := h.1
 unfold O7
 rw [y1 (by omega)]
 have := G3 (body := M6 L) (L := L) (s0 := (0, List.replicate ((L.length : Int)).toNat (0 : Int))) (Q := fun r => r = L) (fun i s => s.1 = (i : Int) ∧ s.2.length = L.length ∧ s.2.take i = L.take i) (by omega) ⟨rfl, by simp, by simp⟩ ?_ ?_
 ·obtain ⟨r, h1, rfl⟩ := this; exact h1
 ·rintro i ⟨j, M⟩ k a ha hi ⟨rfl, h1, h2⟩ hk
  dsimp only at h1 h2
  have hl := w8 ha
  obtain ⟨b, hb⟩ := C5 (L := M) (n := i) (by omega)
  simp only [M6, y9 hl, r9 ha, r9 hb, Option.bind_some, y7, w7 hi, Int.toNat_natCast]
  refine hk _ ⟨rfl, by simpa using h1, ?_⟩
  dsimp only
  rw [A7 ha, A7 (a2M hb), List.take_set_of_le (Nat.le_refl _), h2]
 ·rintro ⟨j, M⟩ k ⟨rfl, h1, h2⟩
  dsimp only at h1 h2
  simp only [M6, y3, A0]
  rw [C3 (Nat.le_of_eq h1), C3 (Nat.le_refl _)] at h2
  exact ⟨_, rfl, h2⟩
theorem b1d (L : List Int) (h : (SmL (fun _ => True)) L) : O3 L L = some true := by
 have hL := h.1
 unfold O3
 simp only [ne_eq, not_true_eq_false, decide_false, A0]
 rw [a0A (L := L) (fun _ => true) (by omega)]
 ·simp
 ·intro i k a ha hi
  simp only [T3, y9 (w8 ha), r9 ha, w7 hi, Option.bind_some, y7, ne_eq, not_true_eq_false, decide_false, A0]
 ·intro k; simp [T3]
noncomputable def b9E (x : Int) (k n : Int) : Prop := 0 ≤ n
theorem b0r (L : List Int) (h : (SmL (fun _ => True)) L) (k : Int) (h1 : 1 ≤ k) (h2 : k + 1048576 ≤ 4611686018427387904) : ∃ L' n, N4 L k = some (L', k + n) ∧ 0 ≤ n ∧ n ≤ 1048576 ∧ L'.length = L.length ∧ (SmL (fun _ => True)) L' ∧ True := by
 have key : ∃ L' n, loop I2 (k, 0, L) = some (L', k + n) ∧ 0 ≤ n ∧ n ≤ 1048576 * 1 ∧ L'.length = L.length ∧ (∀ a ∈ L', (fun _ => True) a) ∧ X5 b9E L' k n := by
  refine a0D b9E (fun _ => True) 1 (by omega) L k h.1 h1 (by omega) h.2 ?_ ?_
  ·intro i k M a K ha hi hp hk hb
   refine ⟨k, 1, by show (0 : Int) ≤ 1; omega, by omega, by omega, trivial, ?_⟩
   have w1 : w64 (k + 1) = k + 1 := A9 (by omega)
   simp only [I2, y9 (w8 ha), r9 ha, Option.bind_some, y7, w7 hi, Int.toNat_natCast, w1]
  ·intro k M K; simp [I2]
 obtain ⟨L', n, q1, q2, q3, q4, q5, q6⟩ := key
 refine ⟨L', n, q1, q2, by omega, q4, ⟨by rw [q4]; exact h.1, q5⟩, ?_⟩
 trivial
theorem b3M (L : List (List Int)) (hp : (OkL (OkL OkI)) L) (l : Int) (h0 : 0 ≤ l) (hl : l ≤ 1048576) : ∃ r, R5 L l = some r ∧ (r ≤ l ∧ (0 ≤ r → (SmL (SmL (fun _ => True))) L)) := by
 obtain ⟨hL, hs⟩ := hp
 unfold R5
 rw [A9 (by omega)]
 simp only [A4]
 split
 ·exact ⟨_, rfl, by omega, by omega⟩
 ·refine G3 (L := L) (fun i s => s.2 = (i : Int) ∧ 0 ≤ s.1 ∧ s.1 ≤ l - (L.length : Int) ∧ ∀ x ∈ L.take i, (SmL (fun _ => True)) x) hL ⟨rfl, by omega, by simp, by simp⟩ ?_ ?_
  ·rintro i ⟨m, j⟩ k a ha hi ⟨rfl, h1, h2, h3⟩ hk
   dsimp only at h1 h2 h3
   have oa := hs a (B6 ha)
   obtain ⟨r, q1, q2, q3⟩ := b0S a oa m h1 (by omega)
   simp only [Q2, y9 (w8 ha), r9 ha, Option.bind_some, y7, A4, q1]
   split
   ·exact ⟨_, rfl, by omega, by omega⟩
   ·rw [w7 hi]
    refine hk _ ⟨rfl, by dsimp only; omega, by dsimp only; omega, ?_⟩
    intro x hx
    rw [A7 ha] at hx
    rcases List.mem_append.1 hx with hx | hx
    ·exact h3 x hx
    ·rw [List.mem_singleton.1 hx]; exact (q3 (by omega))
  ·rintro ⟨m, j⟩ k ⟨rfl, h1, h2, h3⟩
   dsimp only at h1 h2 h3
   simp only [Q2, y3, A0]
   rw [C3 (Nat.le_refl _)] at h3
   exact ⟨_, rfl, by omega, fun _ => ⟨by omega, h3⟩⟩
theorem b3J (L : List (List Int)) (h : (SmL (SmL (fun _ => True))) L) : R0 L = some L := by
 have hL := h.1
 unfold R0
 rw [y1 (by omega)]
 have := G3 (body := J7 L) (L := L) (s0 := (0, List.replicate ((L.length : Int)).toNat ([] : List Int))) (Q := fun r => r = L) (fun i s => s.1 = (i : Int) ∧ s.2.length = L.length ∧ s.2.take i = L.take i) (by omega) ⟨rfl, by simp, by simp⟩ ?_ ?_
 ·obtain ⟨r, h1, rfl⟩ := this; exact h1
 ·rintro i ⟨j, M⟩ k a ha hi ⟨rfl, h1, h2⟩ hk
  dsimp only at h1 h2
  have hl := w8 ha
  obtain ⟨b, hb⟩ := C5 (L := M) (n := i) (by omega)
  simp only [J7, y9 hl, r9 ha, r9 hb, Option.bind_some, y7, w7 hi, Int.toNat_natCast, b1f a (h.2 a (B6 ha))]
  refine hk _ ⟨rfl, by simpa using h1, ?_⟩
  dsimp only
  rw [A7 ha, A7 (a2M hb), List.take_set_of_le (Nat.le_refl _), h2]
 ·rintro ⟨j, M⟩ k ⟨rfl, h1, h2⟩
  dsimp only at h1 h2
  simp only [J7, y3, A0]
  rw [C3 (Nat.le_of_eq h1), C3 (Nat.le_refl _)] at h2
  exact ⟨_, rfl, h2⟩
theorem b4v (L : List (List Int)) (h : (SmL (SmL (fun _ => True))) L) : Q8 L L = some true := by
 have hL := h.1
 unfold Q8
 simp only [ne_eq, not_true_eq_false, decide_false, A0]
 rw [a0A (L := L) (fun _ => true) (by omega)]
 ·simp
 ·intro i k a ha hi
  simp only [Q5, y9 (w8 ha), r9 ha, w7 hi, Option.bind_some, y7, b1d a (h.2 a (B6 ha)), Bool.not_true, A0]
 ·intro k; simp [Q5]
noncomputable def b7p (x : List Int) (k n : Int) : Prop := 0 ≤ n
theorem b3G (L : List (List Int)) (h : (SmL (SmL (fun _ => True))) L) (k : Int) (h1 : 1 ≤ k) (h2 : k + 1099511627776 ≤ 4611686018427387904) : ∃ L' n, S9 L k = some (L', k + n) ∧ 0 ≤ n ∧ n ≤ 1099511627776 ∧ L'.length = L.length ∧ (SmL (SmL (fun _ => True))) L' ∧ True := by
 have key : ∃ L' n, loop G7 (k, 0, L) = some (L', k + n) ∧ 0 ≤ n ∧ n ≤ 1048576 * 1048576 ∧ L'.length = L.length ∧ (∀ a ∈ L', (SmL (fun _ => True)) a) ∧ X5 b7p L' k n := by
  refine a0D b7p (SmL (fun _ => True)) 1048576 (by omega) L k h.1 h1 (by omega) h.2 ?_ ?_
  ·intro i k M a K ha hi hp hk hb
   obtain ⟨a', n, q1, q2, q3, q4, q5, q6⟩ := b0r a hp k hk (by omega)
   refine ⟨a', n, q2, q2, by omega, q5, ?_⟩
   simp only [G7, y9 (w8 ha), r9 ha, Option.bind_some, y7, w7 hi, Int.toNat_natCast, q1, y1 q4]
  ·intro k M K; simp [G7]
 obtain ⟨L', n, q1, q2, q3, q4, q5, q6⟩ := key
 refine ⟨L', n, q1, q2, by omega, q4, ⟨by rw [q4]; exact h.1, q5⟩, ?_⟩
 trivial
noncomputable def b2M (p : A8) : Prop := OkS p.1 ∧ (OkL OkI) p.2.1 ∧ (OkL OkI) p.2.2.1 ∧ OkI p.2.2.2.1 ∧ OkI p.2.2.2.2.1 ∧ (OkL (OkL OkI)) p.2.2.2.2.2
noncomputable def b8z (p : A8) : Prop := SmS p.1 ∧ (SmL (fun _ => True)) p.2.1 ∧ (SmL (fun _ => True)) p.2.2.1 ∧ (fun _ => True) p.2.2.2.1 ∧ (fun _ => True) p.2.2.2.2.1 ∧ (SmL (SmL (fun _ => True))) p.2.2.2.2.2
noncomputable def b1h (p : A8) : Prop := (fun _ => True) p.1 ∧ (SmL (fun _ => True)) p.2.1 ∧ (SmL (fun _ => True)) p.2.2.1 ∧ (fun _ => True) p.2.2.2.1 ∧ (fun _ => True) p.2.2.2.2.1 ∧ (SmL (SmL (fun _ => True))) p.2.2.2.2.2
theorem c0B (p : A8) (h : b8z p) : b1h p := by
 obtain ⟨h0, h1, h2, h3, h4, h5⟩ := h
 exact ⟨trivial, ⟨h1.1, fun a ha => trivial⟩, ⟨h2.1, fun a ha => trivial⟩, trivial, trivial, ⟨h5.1, fun a ha => ⟨(h5.2 a ha).1, fun a ha => trivial⟩⟩⟩
theorem c8E (x : V) (h : a9w true [.str, .sl 1 false [.int .i64], .sl 1 false [.int .i64], .int .i64, .int .i64, .sl 1 false [.sl 1 false [.int .i64]]] x) : ∃ p : A8, x = b3m p ∧ b2M p := by
 obtain ⟨h1, h2⟩ := h
 have h1 : x = .agg x.cells := h1
 obtain ⟨v0, l0, hc, k0, v1, l1, rfl, k1, v2, l2, rfl, k2, v3, l3, rfl, k3, v4, l4, rfl, k4, v5, l5, rfl, k5, rfl⟩ := h2
 obtain ⟨a0, rfl, b0⟩ := a2L k0
 obtain ⟨a1, rfl, b1⟩ := (Z6 (a2r fun _ h => F3 h)) k1
 obtain ⟨a2, rfl, b2⟩ := (Z6 (a2r fun _ h => F3 h)) k2
 obtain ⟨a3, rfl, b3⟩ := F3 k3
 obtain ⟨a4, rfl, b4⟩ := F3 k4
 obtain ⟨a5, rfl, b5⟩ := (Z6 (a2r fun _ h => (Z6 (a2r fun _ h => F3 h)) h)) k5
 exact ⟨(a0, a1, a2, a3, a4, a5), by rw [h1, hc]; rfl, ⟨b0, b1, b2, b3, b4, b5⟩⟩
theorem c3A (p : A8) (hp : b2M p) (l : Int) (h0 : 0 ≤ l) (hl : l ≤ 1048576) : ∃ r, a1Q p l = some r ∧ (r ≤ l ∧ (0 ≤ r → b8z p)) := by
 obtain ⟨o0, o1, o2, o3, o4, o5⟩ := hp
 unfold a1Q
 have q0 : p.1.length ≤ 9223372036854775807 := o0
 rw [A9 (by omega)]
 rw [A4]
 split
 ·exact ⟨_, rfl, by omega, by omega⟩
 obtain ⟨r1, e1, m1, s1⟩ := b0S p.2.1 o1 (l - (p.1.length : Int)) (by omega) (by omega)
 rw [e1]
 rw [Option.bind_some, A4]
 split
 ·exact ⟨_, rfl, by omega, by omega⟩
 obtain ⟨r2, e2, m2, s2⟩ := b0S p.2.2.1 o2 r1 (by omega) (by omega)
 rw [e2]
 rw [Option.bind_some, A4]
 split
 ·exact ⟨_, rfl, by omega, by omega⟩
 obtain ⟨r5, e5, m5, s5⟩ := b3M p.2.2.2.2.2 o5 r2 (by omega) (by omega)
 rw [e5]
 rw [Option.bind_some, A4]
 split
 ·exact ⟨_, rfl, by omega, by omega⟩
 exact ⟨_, rfl, by omega, fun _ => ⟨(by show (p.1.length : Int) ≤ 1048576; omega), (s1 (by omega)), (s2 (by omega)), trivial, trivial, (s5 (by omega))⟩⟩
theorem c4i (p : A8) (h : b1h p) : a1N p = some p := by
 obtain ⟨s0, s1, s2, s3, s4, s5⟩ := h
 unfold a1N
 simp only [b1f _ s1, b1f _ s2, b3J _ s5, Option.bind_some]
theorem c3C (p : A8) (h : b1h p) : a1H p p = some true := by
 obtain ⟨s0, s1, s2, s3, s4, s5⟩ := h
 simp [a1H, b1d _ s1, b1d _ s2, b4v _ s5]
theorem c4m (p : A8) (h : b1h p) (k : Int) (h1 : 1 ≤ k) (h2 : k + 1099513724931 ≤ 4611686018427387904) : ∃ (p' : A8) (n : Int), L5 p k = some (p', k + n) ∧ 0 ≤ n ∧ n ≤ 1099513724931 ∧ ((p').2.1.length = p.2.1.length ∧ (p').2.2.1.length = p.2.2.1.length ∧ (p').2.2.2.2.2.length = p.2.2.2.2.2.length) ∧ b1h p' ∧ True := by
 obtain ⟨b1, n1, q1, r1, s1, l1, c1, e1⟩ := b0r p.2.1 h.2.1 (k) (by omega) (by omega)
 have d1 : decide ((k + n1 : Int) < 0) = false := decide_eq_false (by omega)
 obtain ⟨b2, n2, q2, r2, s2, l2, c2, e2⟩ := b0r p.2.2.1 h.2.2.1 (k + n1) (by omega) (by omega)
 have d2 : decide ((k + n1 + n2 : Int) < 0) = false := decide_eq_false (by omega)
 obtain ⟨b5, n5, q5, r5, s5, l5, c5, e5⟩ := b3G p.2.2.2.2.2 h.2.2.2.2.2 (k + n1 + n2) (by omega) (by omega)
 have d5 : decide ((k + n1 + n2 + n5 : Int) < 0) = false := decide_eq_false (by omega)
 have eK : k + n1 + n2 + n5 = k + (n1 + n2 + n5) := by omega
 have wE : w64 (k + (n1 + n2 + n5)) = k + (n1 + n2 + n5) := A9 (by omega)
 refine ⟨(p.1, b1, b2, p.2.2.2.1, p.2.2.2.2.1, b5), n1 + n2 + n5, ?_, by omega, by omega, ⟨l1, l2, l5⟩, ⟨trivial, c1, c2, trivial, trivial, c5⟩, ?_⟩
 ·simp only [L5, q1, y1 l1, q2, y1 l2, q5, y1 l5, Option.bind_some, eK, wE]
 ·trivial
noncomputable def b8j (p : j6) : Prop := OkI p.1 ∧ OkI p.2
noncomputable def b9m (p : j6) : Prop := (fun _ => True) p.1 ∧ (fun _ => True) p.2
noncomputable def a4a (p : j6) : Prop := (fun _ => True) p.1 ∧ (fun _ => True) p.2
theorem c0F (p : j6) (h : b9m p) : a4a p := by
 obtain ⟨h0, h1⟩ := h
 exact ⟨trivial, trivial⟩
theorem c1k (x : V) (h : a9w true [.int .i64, .int .i64] x) : ∃ p : j6, x = j3 p ∧ b8j p := by
 obtain ⟨h1, h2⟩ := h
 have h1 : x = .agg x.cells := h1
 obtain ⟨v0, l0, hc, k0, v1, l1, rfl, k1, rfl⟩ := h2
 obtain ⟨a0, rfl, b0⟩ := F3 k0
 obtain ⟨a1, rfl, b1⟩ := F3 k1
 exact ⟨(a0, a1), by rw [h1, hc]; rfl, ⟨b0, b1⟩⟩
theorem c4e (p : j6) (h : a4a p) : a1M p = some p := by
 obtain ⟨s0, s1⟩ := h
 unfold a1M
 rfl
theorem c3o (p : j6) (h : a4a p) : a1P p p = some true := by
 obtain ⟨s0, s1⟩ := h
 simp [a1P]
theorem c2b (L : List j6) (hp : (OkL b8j) L) (l : Int) (h0 : 0 ≤ l) (hl : l ≤ 1048576) : ∃ r, a1f L l = some r ∧ (r ≤ l ∧ (0 ≤ r → (SmL b9m) L)) := by
 obtain ⟨hL, hs⟩ := hp
 unfold a1f
 rw [A9 (by omega)]
 simp only [A4]
 split
 ·exact ⟨_, rfl, by omega, by omega⟩
 ·exact ⟨_, rfl, by omega, fun _ => ⟨by omega, fun a _ => ⟨trivial, trivial⟩⟩⟩
theorem c2o (L : List j6) (h : (SmL a4a) L) : a0X L = some L := by
 have hL := h.1
 unfold a0X
 rw [y1 (by omega)]
 have := G3 (body := N7 L) (L := L) (s0 := (0, List.replicate ((L.length : Int)).toNat ((0, 0) : j6))) (Q := fun r => r = L) (fun i s => s.1 = (i : Int) ∧ s.2.length = L.length ∧ s.2.take i = L.take i) (by omega) ⟨rfl, by simp, by simp⟩ ?_ ?_
 ·obtain ⟨r, h1, rfl⟩ := this; exact h1
 ·rintro i ⟨j, M⟩ k a ha hi ⟨rfl, h1, h2⟩ hk
  dsimp only at h1 h2
  have hl := w8 ha
  obtain ⟨b, hb⟩ := C5 (L := M) (n := i) (by omega)
  simp only [N7, y9 hl, r9 ha, r9 hb, Option.bind_some, y7, w7 hi, Int.toNat_natCast, c4e a (h.2 a (B6 ha))]
  refine hk _ ⟨rfl, by simpa using h1, ?_⟩
  dsimp only
  rw [A7 ha, A7 (a2M hb), List.take_set_of_le (Nat.le_refl _), h2]
 ·rintro ⟨j, M⟩ k ⟨rfl, h1, h2⟩
  dsimp only at h1 h2
  simp only [N7, y3, A0]
  rw [C3 (Nat.le_of_eq h1), C3 (Nat.le_refl _)] at h2
  exact ⟨_, rfl, h2⟩
theorem c2i (L : List j6) (h : (SmL a4a) L) : a1a L L = some true := by
 have hL := h.1
 unfold a1a
 simp only [ne_eq, not_true_eq_false, decide_false, A0]
 rw [a0A (L := L) (fun _ => true) (by omega)]
 ·simp
 ·intro i k a ha hi
  simp only [W8, y9 (w8 ha), r9 ha, w7 hi, Option.bind_some, y7, c3o a (h.2 a (B6 ha)), Bool.not_true, A0]
 ·intro k; simp [W8]
noncomputable def c1L (x : j6) (k n : Int) : Prop := 0 ≤ n
theorem c1n (L : List j6) (h : (SmL a4a) L) (k : Int) (h1 : 1 ≤ k) (h2 : k + 2097152 ≤ 4611686018427387904) : ∃ L' n, a1m L k = some (L', k + n) ∧ 0 ≤ n ∧ n ≤ 2097152 ∧ L'.length = L.length ∧ (SmL a4a) L' ∧ True := by
 have key : ∃ L' n, loop J9 (k, 0, L) = some (L', k + n) ∧ 0 ≤ n ∧ n ≤ 1048576 * 2 ∧ L'.length = L.length ∧ (∀ a ∈ L', a4a a) ∧ X5 c1L L' k n := by
  refine a0D c1L a4a 2 (by omega) L k h.1 h1 (by omega) h.2 ?_ ?_
  ·intro i k M a K ha hi hp hk hb
   have w0 : w64 (k + 1) = k + 1 := A9 (by omega)
   have w1 : w64 (k + 1 + 1) = k + 1 + 1 := A9 (by omega)
   refine ⟨(k, k + 1), 2, (by show (0 : Int) ≤ 2; omega), by omega, by omega, ⟨trivial, trivial⟩, ?_⟩
   have eK : k + 1 + 1 = k + (2) := by omega
   have wE : w64 (k + (2)) = k + (2) := A9 (by omega)
   simp only [J9, y9 (w8 ha), r9 ha, Option.bind_some, y7, w7 hi, Int.toNat_natCast, a1U, a8l (w8 ha), List.set_set, List.length_set, w0, w1, eK, wE]
  ·intro k M K; simp [J9]
 obtain ⟨L', n, q1, q2, q3, q4, q5, q6⟩ := key
 refine ⟨L', n, q1, q2, by omega, q4, ⟨by rw [q4]; exact h.1, q5⟩, ?_⟩
 trivial
noncomputable def b6d (p : j6) : Prop := OkI p.1 ∧ OkI p.2
noncomputable def b6k (p : j6) : Prop := (fun _ => True) p.1 ∧ (fun _ => True) p.2
noncomputable def a2P (p : j6) : Prop := (fun _ => True) p.1 ∧ (fun _ => True) p.2
theorem b8y (p : j6) (h : b6k p) : a2P p := by
 obtain ⟨h0, h1⟩ := h
 exact ⟨trivial, trivial⟩
theorem b5n (x : V) (h : a9w true [.int .i64, .int .i64] x) : ∃ p : j6, x = j3 p ∧ b6d p := by
 obtain ⟨h1, h2⟩ := h
 have h1 : x = .agg x.cells := h1
 obtain ⟨v0, l0, hc, k0, v1, l1, rfl, k1, rfl⟩ := h2
 obtain ⟨a0, rfl, b0⟩ := F3 k0
 obtain ⟨a1, rfl, b1⟩ := F3 k1
 exact ⟨(a0, a1), by rw [h1, hc]; rfl, ⟨b0, b1⟩⟩
theorem c2f (p : j6) (h : a2P p) : a0Q p = some p := by
 obtain ⟨s0, s1⟩ := h
 unfold a0Q
 rfl
theorem c2w (p : j6) (h : a2P p) : a0W p p = some true := by
 obtain ⟨s0, s1⟩ := h
 simp [a0W]
theorem c0Y (L : List j6) (hp : (OkL b6d) L) (l : Int) (h0 : 0 ≤ l) (hl : l ≤ 1048576) : ∃ r, a0t L l = some r ∧ (r ≤ l ∧ (0 ≤ r → (SmL b6k) L)) := by
 obtain ⟨hL, hs⟩ := hp
 unfold a0t
 rw [A9 (by omega)]
 simp only [A4]
 split
 ·exact ⟨_, rfl, by omega, by omega⟩
 ·exact ⟨_, rfl, by omega, fun _ => ⟨by omega, fun a _ => ⟨trivial, trivial⟩⟩⟩
theorem c0x (L : List j6) (h : (SmL a2P) L) : a0p L = some L := by
 have hL := h.1
 unfold a0p
 rw [y1 (by omega)]
 have := G3 (body := M5 L) (L := L) (s0 := (0, List.replicate ((L.length : Int)).toNat ((0, 0) : j6))) (Q := fun r => r = L) (fun i s => s.1 = (i : Int) ∧ s.2.length = L.length ∧ s.2.take i = L.take i) (by omega) ⟨rfl, by simp, by simp⟩ ?_ ?_
 ·obtain ⟨r, h1, rfl⟩ := this; exact h1
 ·rintro i ⟨j, M⟩ k a ha hi ⟨rfl, h1, h2⟩ hk
  dsimp only at h1 h2
  have hl := w8 ha
  obtain ⟨b, hb⟩ := C5 (L := M) (n := i) (by omega)
  simp only [M5, y9 hl, r9 ha, r9 hb, Option.bind_some, y7, w7 hi, Int.toNat_natCast, c2f a (h.2 a (B6 ha))]
  refine hk _ ⟨rfl, by simpa using h1, ?_⟩
  dsimp only
  rw [A7 ha, A7 (a2M hb), List.take_set_of_le (Nat.le_refl _), h2]
 ·rintro ⟨j, M⟩ k ⟨rfl, h1, h2⟩
  dsimp only at h1 h2
  simp only [M5, y3, A0]
  rw [C3 (Nat.le_of_eq h1), C3 (Nat.le_refl _)] at h2
  exact ⟨_, rfl, h2⟩
theorem c0P (L : List j6) (h : (SmL a2P) L) : a0o L L = some true := by
 have hL := h.1
 unfold a0o
 simp only [ne_eq, not_true_eq_false, decide_false, A0]
 rw [a0A (L := L) (fun _ => true) (by omega)]
 ·simp
 ·intro i k a ha hi
  simp only [R7, y9 (w8 ha), r9 ha, w7 hi, Option.bind_some, y7, c2w a (h.2 a (B6 ha)), Bool.not_true, A0]
 ·intro k; simp [R7]
noncomputable def b9W (x : j6) (k n : Int) : Prop := 0 ≤ n
theorem c0w (L : List j6) (h : (SmL a2P) L) (k : Int) (h1 : 1 ≤ k) (h2 : k + 2097152 ≤ 4611686018427387904) : ∃ L' n, a0K L k = some (L', k + n) ∧ 0 ≤ n ∧ n ≤ 2097152 ∧ L'.length = L.length ∧ (SmL a2P) L' ∧ True := by
 have key : ∃ L' n, loop I1 (k, 0, L) = some (L', k + n) ∧ 0 ≤ n ∧ n ≤ 1048576 * 2 ∧ L'.length = L.length ∧ (∀ a ∈ L', a2P a) ∧ X5 b9W L' k n := by
  refine a0D b9W a2P 2 (by omega) L k h.1 h1 (by omega) h.2 ?_ ?_
  ·intro i k M a K ha hi hp hk hb
   have w0 : w64 (k + 1) = k + 1 := A9 (by omega)
   have w1 : w64 (k + 1 + 1) = k + 1 + 1 := A9 (by omega)
   refine ⟨(k, k + 1), 2, (by show (0 : Int) ≤ 2; omega), by omega, by omega, ⟨trivial, trivial⟩, ?_⟩
   have eK : k + 1 + 1 = k + (2) := by omega
   have wE : w64 (k + (2)) = k + (2) := A9 (by omega)
   simp only [I1, y9 (w8 ha), r9 ha, Option.bind_some, y7, w7 hi, Int.toNat_natCast, a1U, a8l (w8 ha), List.set_set, List.length_set, w0, w1, eK, wE]
  ·intro k M K; simp [I1]
 obtain ⟨L', n, q1, q2, q3, q4, q5, q6⟩ := key
 refine ⟨L', n, q1, q2, by omega, q4, ⟨by rw [q4]; exact h.1, q5⟩, ?_⟩
 trivial
noncomputable def b4e (p : z7) : Prop := OkS p.1 ∧ (OkL b6d) p.2
noncomputable def b4u (p : z7) : Prop := SmS p.1 ∧ (SmL b6k) p.2
noncomputable def a4v (p : z7) : Prop := (fun _ => True) p.1 ∧ (SmL a2P) p.2
theorem b7L (p : z7) (h : b4u p) : a4v p := by
 obtain ⟨h0, h1⟩ := h
 exact ⟨trivial, ⟨h1.1, fun a ha => (b8y a (h1.2 a ha))⟩⟩
theorem c6B (x : V) (h : a9w true [.str, .sl 2 true [.int .i64, .int .i64]] x) : ∃ p : z7, x = a6v p ∧ b4e p := by
 obtain ⟨h1, h2⟩ := h
 have h1 : x = .agg x.cells := h1
 obtain ⟨v0, l0, hc, k0, v1, l1, rfl, k1, rfl⟩ := h2
 obtain ⟨a0, rfl, b0⟩ := a2L k0
 obtain ⟨a1, rfl, b1⟩ := (Z6 b5n) k1
 exact ⟨(a0, a1), by rw [h1, hc]; rfl, ⟨b0, b1⟩⟩
theorem b9Z (p : z7) (hp : b4e p) (l : Int) (h0 : 0 ≤ l) (hl : l ≤ 1048576) : ∃ r, a0y p l = some r ∧ (r ≤ l ∧ (0 ≤ r → b4u p)) := by
 obtain ⟨o0, o1⟩ := hp
 unfold a0y
 have q0 : p.1.length ≤ 9223372036854775807 := o0
 rw [A9 (by omega)]
 rw [A4]
 split
 ·exact ⟨_, rfl, by omega, by omega⟩
 obtain ⟨r1, e1, m1, s1⟩ := c0Y p.2 o1 (l - (p.1.length : Int)) (by omega) (by omega)
 rw [e1]
 rw [Option.bind_some, A4]
 split
 ·exact ⟨_, rfl, by omega, by omega⟩
 exact ⟨_, rfl, by omega, fun _ => ⟨(by show (p.1.length : Int) ≤ 1048576; omega), (s1 (by omega))⟩⟩
theorem c0H (p : z7) (h : a4v p) : a0m p = some p := by
 obtain ⟨s0, s1⟩ := h
 unfold a0m
 simp only [c0x _ s1, Option.bind_some]
theorem c1g (p : z7) (h : a4v p) : a0g p p = some true := by
 obtain ⟨s0, s1⟩ := h
 simp [a0g, c0P _ s1]
theorem c1c (p : z7) (h : a4v p) (k : Int) (h1 : 1 ≤ k) (h2 : k + 2097153 ≤ 4611686018427387904) : ∃ (p' : z7) (n : Int), O0 p k = some (p', k + n) ∧ 0 ≤ n ∧ n ≤ 2097153 ∧ ((p').2.length = p.2.length) ∧ a4v p' ∧ True := by
 obtain ⟨b1, n1, q1, r1, s1, l1, c1, e1⟩ := c0w p.2 h.2 (k) (by omega) (by omega)
 have d1 : decide ((k + n1 : Int) < 0) = false := decide_eq_false (by omega)
 have eK : k + n1 = k + (n1) := by omega
 have wE : w64 (k + (n1)) = k + (n1) := A9 (by omega)
 refine ⟨(p.1, b1), n1, ?_, by omega, by omega, l1, ⟨trivial, c1⟩, ?_⟩
 ·simp only [O0, q1, y1 l1, Option.bind_some, eK, wE]
 ·trivial
noncomputable def a0Y (p : m9) : Prop := OkS p.1 ∧ OkI p.2.1 ∧ OkI p.2.2
noncomputable def a3A (p : m9) : Prop := SmS p.1 ∧ (fun _ => True) p.2.1 ∧ (fun _ => True) p.2.2
noncomputable def X0 (p : m9) : Prop := (fun _ => True) p.1 ∧ (fun _ => True) p.2.1 ∧ (fun _ => True) p.2.2
theorem b4T (p : m9) (h : a3A p) : X0 p := by
 obtain ⟨h0, h1, h2⟩ := h
 exact ⟨trivial, trivial, trivial⟩
theorem b6e (x : V) (h : a9w true [.str, .int .i64, .int .i64] x) : ∃ p : m9, x = p3 p ∧ a0Y p := by
 obtain ⟨h1, h2⟩ := h
 have h1 : x = .agg x.cells := h1
 obtain ⟨v0, l0, hc, k0, v1, l1, rfl, k1, v2, l2, rfl, k2, rfl⟩ := h2
 obtain ⟨a0, rfl, b0⟩ := a2L k0
 obtain ⟨a1, rfl, b1⟩ := F3 k1
 obtain ⟨a2, rfl, b2⟩ := F3 k2
 exact ⟨(a0, a1, a2), by rw [h1, hc]; rfl, ⟨b0, b1, b2⟩⟩
theorem b7f (p : m9) (hp : a0Y p) (l : Int) (h0 : 0 ≤ l) (hl : l ≤ 1048576) : ∃ r, W4 p l = some r ∧ (r ≤ l ∧ (0 ≤ r → a3A p)) := by
 obtain ⟨o0, o1, o2⟩ := hp
 unfold W4
 have q0 : p.1.length ≤ 9223372036854775807 := o0
 rw [A9 (by omega)]
 rw [A4]
 split
 ·exact ⟨_, rfl, by omega, by omega⟩
 exact ⟨_, rfl, by omega, fun _ => ⟨(by show (p.1.length : Int) ≤ 1048576; omega), trivial, trivial⟩⟩
theorem b7k (p : m9) (h : X0 p) : V3 p = some p := by
 obtain ⟨s0, s1, s2⟩ := h
 unfold V3
 rfl
theorem b7N (p : m9) (h : X0 p) : V0 p p = some true := by
 obtain ⟨s0, s1, s2⟩ := h
 simp [V0]
theorem b5T (L : List m9) (hp : (OkL a0Y) L) (l : Int) (h0 : 0 ≤ l) (hl : l ≤ 1048576) : ∃ r, S8 L l = some r ∧ (r ≤ l ∧ (0 ≤ r → (SmL a3A) L)) := by
 obtain ⟨hL, hs⟩ := hp
 unfold S8
 rw [A9 (by omega)]
 simp only [A4]
 split
 ·exact ⟨_, rfl, by omega, by omega⟩
 ·refine G3 (L := L) (fun i s => s.2 = (i : Int) ∧ 0 ≤ s.1 ∧ s.1 ≤ l - (L.length : Int) ∧ ∀ x ∈ L.take i, a3A x) hL ⟨rfl, by omega, by simp, by simp⟩ ?_ ?_
  ·rintro i ⟨m, j⟩ k a ha hi ⟨rfl, h1, h2, h3⟩ hk
   dsimp only at h1 h2 h3
   have oa := hs a (B6 ha)
   obtain ⟨r, q1, q2, q3⟩ := b7f a oa m h1 (by omega)
   simp only [M0, y9 (w8 ha), r9 ha, Option.bind_some, y7, A4, q1]
   split
   ·exact ⟨_, rfl, by omega, by omega⟩
   ·rw [w7 hi]
    refine hk _ ⟨rfl, by dsimp only; omega, by dsimp only; omega, ?_⟩
    intro x hx
    rw [A7 ha] at hx
    rcases List.mem_append.1 hx with hx | hx
    ·exact h3 x hx
    ·rw [List.mem_singleton.1 hx]; exact (q3 (by omega))
  ·rintro ⟨m, j⟩ k ⟨rfl, h1, h2, h3⟩
   dsimp only at h1 h2 h3
   simp only [M0, y3, A0]
   rw [C3 (Nat.le_refl _)] at h3
   exact ⟨_, rfl, by omega, fun _ => ⟨by omega, h3⟩⟩
theorem b6p (L : List m9) (h : (SmL X0) L) : R9 L = some L := by
 have hL := h.1
 unfold R9
 rw [y1 (by omega)]
 have := G3 (body := G5 L) (L := L) (s0 := (0, List.replicate ((L.length : Int)).toNat (([], 0, 0) : m9))) (Q := fun r => r = L) (fun i s => s.1 = (i : Int) ∧ s.2.length = L.length ∧ s.2.take i = L.take i) (by omega) ⟨rfl, by simp, by simp⟩ ?_ ?_
 ·obtain ⟨r, h1, rfl⟩ := this; exact h1
 ·rintro i ⟨j, M⟩ k a ha hi ⟨rfl, h1, h2⟩ hk
  dsimp only at h1 h2
  have hl := w8 ha
  obtain ⟨b, hb⟩ := C5 (L := M) (n := i) (by omega)
  simp only [G5, y9 hl, r9 ha, r9 hb, Option.bind_some, y7, w7 hi, Int.toNat_natCast, b7k a (h.2 a (B6 ha))]
  refine hk _ ⟨rfl, by simpa using h1, ?_⟩
  dsimp only
  rw [A7 ha, A7 (a2M hb), List.take_set_of_le (Nat.le_refl _), h2]
 ·rintro ⟨j, M⟩ k ⟨rfl, h1, h2⟩
  dsimp only at h1 h2
  simp only [G5, y3, A0]
  rw [C3 (Nat.le_of_eq h1), C3 (Nat.le_refl _)] at h2
  exact ⟨_, rfl, h2⟩
theorem b6a (L : List m9) (h : (SmL X0) L) : T0 L L = some true := by
 have hL := h.1
 unfold T0
 simp only [ne_eq, not_true_eq_false, decide_false, A0]
 rw [a0A (L := L) (fun _ => true) (by omega)]
 ·simp
 ·intro i k a ha hi
  simp only [M1, y9 (w8 ha), r9 ha, w7 hi, Option.bind_some, y7, b7N a (h.2 a (B6 ha)), Bool.not_true, A0]
 ·intro k; simp [M1]
noncomputable def b3T (x : m9) (k n : Int) : Prop := 0 ≤ n
theorem b6r (L : List m9) (h : (SmL X0) L) (k : Int) (h1 : 1 ≤ k) (h2 : k + 3145728 ≤ 4611686018427387904) : ∃ L' n, W6 L k = some (L', k + n) ∧ 0 ≤ n ∧ n ≤ 3145728 ∧ L'.length = L.length ∧ (SmL X0) L' ∧ True := by
 have key : ∃ L' n, loop F2 (k, 0, L) = some (L', k + n) ∧ 0 ≤ n ∧ n ≤ 1048576 * 3 ∧ L'.length = L.length ∧ (∀ a ∈ L', X0 a) ∧ X5 b3T L' k n := by
  refine a0D b3T X0 3 (by omega) L k h.1 h1 (by omega) h.2 ?_ ?_
  ·intro i k M a K ha hi hp hk hb
   have t0 := a1e (k) (by omega) (by omega)
   have w0 : w64 (k + 1) = k + 1 := A9 (by omega)
   have w1 : w64 (k + 1 + 1) = k + 1 + 1 := A9 (by omega)
   have w2 : w64 (k + 1 + 1 + 1) = k + 1 + 1 + 1 := A9 (by omega)
   refine ⟨(mt (k), k + 1, k + 1 + 1), 3, (by show (0 : Int) ≤ 3; omega), by omega, by omega, ⟨trivial, trivial, trivial⟩, ?_⟩
   have eK : k + 1 + 1 + 1 = k + (3) := by omega
   have wE : w64 (k + (3)) = k + (3) := A9 (by omega)
   simp only [F2, y9 (w8 ha), r9 ha, Option.bind_some, y7, w7 hi, Int.toNat_natCast, a1U, a8l (w8 ha), List.set_set, List.length_set, t0, w0, w1, w2, eK, wE]
  ·intro k M K; simp [F2]
 obtain ⟨L', n, q1, q2, q3, q4, q5, q6⟩ := key
 refine ⟨L', n, q1, q2, by omega, q4, ⟨by rw [q4]; exact h.1, q5⟩, ?_⟩
 trivial
noncomputable def a6f (p : j6) : Prop := OkI p.1 ∧ OkI p.2
noncomputable def a5G (p : j6) : Prop := (fun _ => True) p.1 ∧ (fun _ => True) p.2
noncomputable def Q7 (p : j6) : Prop := (fun _ => True) p.1 ∧ (fun _ => True) p.2
theorem b4q (p : j6) (h : a5G p) : Q7 p := by
 obtain ⟨h0, h1⟩ := h
 exact ⟨trivial, trivial⟩
theorem b4L (x : V) (h : a9w true [.int .i64, .int .i64] x) : ∃ p : j6, x = j3 p ∧ a6f p := by
 obtain ⟨h1, h2⟩ := h
 have h1 : x = .agg x.cells := h1
 obtain ⟨v0, l0, hc, k0, v1, l1, rfl, k1, rfl⟩ := h2
 obtain ⟨a0, rfl, b0⟩ := F3 k0
 obtain ⟨a1, rfl, b1⟩ := F3 k1
 exact ⟨(a0, a1), by rw [h1, hc]; rfl, ⟨b0, b1⟩⟩
theorem b6D (p : j6) (h : Q7 p) : S7 p = some p := by
 obtain ⟨s0, s1⟩ := h
 unfold S7
 rfl
theorem b6w (p : j6) (h : Q7 p) : S3 p p = some true := by
 obtain ⟨s0, s1⟩ := h
 simp [S3]
theorem b4S (L : List j6) (hp : (OkL a6f) L) (l : Int) (h0 : 0 ≤ l) (hl : l ≤ 1048576) : ∃ r, P2 L l = some r ∧ (r ≤ l ∧ (0 ≤ r → (SmL a5G) L)) := by
 obtain ⟨hL, hs⟩ := hp
 unfold P2
 rw [A9 (by omega)]
 simp only [A4]
 split
 ·exact ⟨_, rfl, by omega, by omega⟩
 ·exact ⟨_, rfl, by omega, fun _ => ⟨by omega, fun a _ => ⟨trivial, trivial⟩⟩⟩
theorem b4Q (L : List j6) (h : (SmL Q7) L) : P9 L = some L := by
 have hL := h.1
 unfold P9
 rw [y1 (by omega)]
 have := G3 (body := F8 L) (L := L) (s0 := (0, List.replicate ((L.length : Int)).toNat ((0, 0) : j6))) (Q := fun r => r = L) (fun i s => s.1 = (i : Int) ∧ s.2.length = L.length ∧ s.2.take i = L.take i) (by omega) ⟨rfl, by simp, by simp⟩ ?_ ?_
 ·obtain ⟨r, h1, rfl⟩ := this; exact h1
 ·rintro i ⟨j, M⟩ k a ha hi ⟨rfl, h1, h2⟩ hk
  dsimp only at h1 h2
  have hl := w8 ha
  obtain ⟨b, hb⟩ := C5 (L := M) (n := i) (by omega)
  simp only [F8, y9 hl, r9 ha, r9 hb, Option.bind_some, y7, w7 hi, Int.toNat_natCast, b6D a (h.2 a (B6 ha))]
  refine hk _ ⟨rfl, by simpa using h1, ?_⟩
  dsimp only
  rw [A7 ha, A7 (a2M hb), List.take_set_of_le (Nat.le_refl _), h2]
 ·rintro ⟨j, M⟩ k ⟨rfl, h1, h2⟩
  dsimp only at h1 h2
  simp only [F8, y3, A0]
  rw [C3 (Nat.le_of_eq h1), C3 (Nat.le_refl _)] at h2
  exact ⟨_, rfl, h2⟩
theorem b4P (L : List j6) (h : (SmL Q7) L) : P4 L L = some true := by
 have hL := h.1
 unfold P4
 simp only [ne_eq, not_true_eq_false, decide_false, A0]
 rw [a0A (L := L) (fun _ => true) (by omega)]
 ·simp
 ·intro i k a ha hi
  simp only [J0, y9 (w8 ha), r9 ha, w7 hi, Option.bind_some, y7, b6w a (h.2 a (B6 ha)), Bool.not_true, A0]
 ·intro k; simp [J0]
noncomputable def b1B (x : j6) (k n : Int) : Prop := 0 ≤ n
theorem b4M (L : List j6) (h : (SmL Q7) L) (k : Int) (h1 : 1 ≤ k) (h2 : k + 2097152 ≤ 4611686018427387904) : ∃ L' n, T6 L k = some (L', k + n) ∧ 0 ≤ n ∧ n ≤ 2097152 ∧ L'.length = L.length ∧ (SmL Q7) L' ∧ True := by
 have key : ∃ L' n, loop E8 (k, 0, L) = some (L', k + n) ∧ 0 ≤ n ∧ n ≤ 1048576 * 2 ∧ L'.length = L.length ∧ (∀ a ∈ L', Q7 a) ∧ X5 b1B L' k n := by
  refine a0D b1B Q7 2 (by omega) L k h.1 h1 (by omega) h.2 ?_ ?_
  ·intro i k M a K ha hi hp hk hb
   have w0 : w64 (k + 1) = k + 1 := A9 (by omega)
   have w1 : w64 (k + 1 + 1) = k + 1 + 1 := A9 (by omega)
   refine ⟨(k, k + 1), 2, (by show (0 : Int) ≤ 2; omega), by omega, by omega, ⟨trivial, trivial⟩, ?_⟩
   have eK : k + 1 + 1 = k + (2) := by omega
   have wE : w64 (k + (2)) = k + (2) := A9 (by omega)
   simp only [E8, y9 (w8 ha), r9 ha, Option.bind_some, y7, w7 hi, Int.toNat_natCast, a1U, a8l (w8 ha), List.set_set, List.length_set, w0, w1, eK, wE]
  ·intro k M K; simp [E8]
 obtain ⟨L', n, q1, q2, q3, q4, q5, q6⟩ := key
 refine ⟨L', n, q1, q2, by omega, q4, ⟨by rw [q4]; exact h.1, q5⟩, ?_⟩
 trivial
noncomputable def a5z (p : y6) : Prop := OkS p.1 ∧ OkI p.2.1 ∧ OkI p.2.2.1 ∧ OkI p.2.2.2.1 ∧ OkI p.2.2.2.2.1 ∧ OkI p.2.2.2.2.2
noncomputable def b2X (p : y6) : Prop := SmS p.1 ∧ (fun _ => True) p.2.1 ∧ (fun _ => True) p.2.2.1 ∧ (fun _ => True) p.2.2.2.1 ∧ (fun _ => True) p.2.2.2.2.1 ∧ (fun _ => True) p.2.2.2.2.2
noncomputable def a3Z (p : y6) : Prop := (fun _ => True) p.1 ∧ (fun _ => True) p.2.1 ∧ (fun _ => True) p.2.2.1 ∧ (fun _ => True) p.2.2.2.1 ∧ (fun _ => True) p.2.2.2.2.1 ∧ (fun _ => True) p.2.2.2.2.2
theorem c1f (p : y6) (h : b2X p) : a3Z p := by
 obtain ⟨h0, h1, h2, h3, h4, h5⟩ := h
 exact ⟨trivial, trivial, trivial, trivial, trivial, trivial⟩
theorem c1R (x : V) (h : a9w true [.str, .int .i64, .int .i64, .int .i64, .int .i64, .int .i64] x) : ∃ p : y6, x = A1 p ∧ a5z p := by
 obtain ⟨h1, h2⟩ := h
 have h1 : x = .agg x.cells := h1
 obtain ⟨v0, l0, hc, k0, v1, l1, rfl, k1, v2, l2, rfl, k2, v3, l3, rfl, k3, v4, l4, rfl, k4, v5, l5, rfl, k5, rfl⟩ := h2
 obtain ⟨a0, rfl, b0⟩ := a2L k0
 obtain ⟨a1, rfl, b1⟩ := F3 k1
 obtain ⟨a2, rfl, b2⟩ := F3 k2
 obtain ⟨a3, rfl, b3⟩ := F3 k3
 obtain ⟨a4, rfl, b4⟩ := F3 k4
 obtain ⟨a5, rfl, b5⟩ := F3 k5
 exact ⟨(a0, a1, a2, a3, a4, a5), by rw [h1, hc]; rfl, ⟨b0, b1, b2, b3, b4, b5⟩⟩
theorem c3L (p : y6) (hp : a5z p) (l : Int) (h0 : 0 ≤ l) (hl : l ≤ 1048576) : ∃ r, a1G p l = some r ∧ (r ≤ l ∧ (0 ≤ r → b2X p)) := by
 obtain ⟨o0, o1, o2, o3, o4, o5⟩ := hp
 unfold a1G
 have q0 : p.1.length ≤ 9223372036854775807 := o0
 rw [A9 (by omega)]
 rw [A4]
 split
 ·exact ⟨_, rfl, by omega, by omega⟩
 exact ⟨_, rfl, by omega, fun _ => ⟨(by show (p.1.length : Int) ≤ 1048576; omega), trivial, trivial, trivial, trivial, trivial⟩⟩
theorem c4f (p : y6) (h : a3Z p) : a1w p = some p := by
 obtain ⟨s0, s1, s2, s3, s4, s5⟩ := h
 unfold a1w
 rfl
theorem c3j (p : y6) (h : a3Z p) : a1E p p = some true := by
 obtain ⟨s0, s1, s2, s3, s4, s5⟩ := h
 simp [a1E]
theorem c2X (L : List y6) (hp : (OkL a5z) L) (l : Int) (h0 : 0 ≤ l) (hl : l ≤ 1048576) : ∃ r, a1c L l = some r ∧ (r ≤ l ∧ (0 ≤ r → (SmL b2X) L)) := by
 obtain ⟨hL, hs⟩ := hp
 unfold a1c
 rw [A9 (by omega)]
 simp only [A4]
 split
 ·exact ⟨_, rfl, by omega, by omega⟩
 ·refine G3 (L := L) (fun i s => s.2 = (i : Int) ∧ 0 ≤ s.1 ∧ s.1 ≤ l - (L.length : Int) ∧ ∀ x ∈ L.take i, b2X x) hL ⟨rfl, by omega, by simp, by simp⟩ ?_ ?_
  ·rintro i ⟨m, j⟩ k a ha hi ⟨rfl, h1, h2, h3⟩ hk
   dsimp only at h1 h2 h3
   have oa := hs a (B6 ha)
   obtain ⟨r, q1, q2, q3⟩ := c3L a oa m h1 (by omega)
   simp only [V2, y9 (w8 ha), r9 ha, Option.bind_some, y7, A4, q1]
   split
   ·exact ⟨_, rfl, by omega, by omega⟩
   ·rw [w7 hi]
    refine hk _ ⟨rfl, by dsimp only; omega, by dsimp only; omega, ?_⟩
    intro x hx
    rw [A7 ha] at hx
    rcases List.mem_append.1 hx with hx | hx
    ·exact h3 x hx
    ·rw [List.mem_singleton.1 hx]; exact (q3 (by omega))
  ·rintro ⟨m, j⟩ k ⟨rfl, h1, h2, h3⟩
   dsimp only at h1 h2 h3
   simp only [V2, y3, A0]
   rw [C3 (Nat.le_refl _)] at h3
   exact ⟨_, rfl, by omega, fun _ => ⟨by omega, h3⟩⟩
theorem c2m (L : List y6) (h : (SmL a3Z) L) : a1g L = some L := by
 have hL := h.1
 unfold a1g
 rw [y1 (by omega)]
 have := G3 (body := N8 L) (L := L) (s0 := (0, List.replicate ((L.length : Int)).toNat (([], 0, 0, 0, 0, 0) : y6))) (Q := fun r => r = L) (fun i s => s.1 = (i : Int) ∧ s.2.length = L.length ∧ s.2.take i = L.take i) (by omega) ⟨rfl, by simp, by simp⟩ ?_ ?_
 ·obtain ⟨r, h1, rfl⟩ := this; exact h1
 ·rintro i ⟨j, M⟩ k a ha hi ⟨rfl, h1, h2⟩ hk
  dsimp only at h1 h2
  have hl := w8 ha
  obtain ⟨b, hb⟩ := C5 (L := M) (n := i) (by omega)
  simp only [N8, y9 hl, r9 ha, r9 hb, Option.bind_some, y7, w7 hi, Int.toNat_natCast, c4f a (h.2 a (B6 ha))]
  refine hk _ ⟨rfl, by simpa using h1, ?_⟩
  dsimp only
  rw [A7 ha, A7 (a2M hb), List.take_set_of_le (Nat.le_refl _), h2]
 ·rintro ⟨j, M⟩ k ⟨rfl, h1, h2⟩
  dsimp only at h1 h2
  simp only [N8, y3, A0]
  rw [C3 (Nat.le_of_eq h1), C3 (Nat.le_refl _)] at h2
  exact ⟨_, rfl, h2⟩
theorem c1h (L : List y6) (h : (SmL a3Z) L) : a1h L L = some true := by
 have hL := h.1
 unfold a1h
 simp only [ne_eq, not_true_eq_false, decide_false, A0]
 rw [a0A (L := L) (fun _ => true) (by omega)]
 ·simp
 ·intro i k a ha hi
  simp only [W0, y9 (w8 ha), r9 ha, w7 hi, Option.bind_some, y7, c3j a (h.2 a (B6 ha)), Bool.not_true, A0]
 ·intro k; simp [W0]
noncomputable def c1v (x : y6) (k n : Int) : Prop := 0 ≤ n
theorem c2N (L : List y6) (h : (SmL a3Z) L) (k : Int) (h1 : 1 ≤ k) (h2 : k + 6291456 ≤ 4611686018427387904) : ∃ L' n, a1j L k = some (L', k + n) ∧ 0 ≤ n ∧ n ≤ 6291456 ∧ L'.length = L.length ∧ (SmL a3Z) L' ∧ True := by
 have key : ∃ L' n, loop L4 (k, 0, L) = some (L', k + n) ∧ 0 ≤ n ∧ n ≤ 1048576 * 6 ∧ L'.length = L.length ∧ (∀ a ∈ L', a3Z a) ∧ X5 c1v L' k n := by
  refine a0D c1v a3Z 6 (by omega) L k h.1 h1 (by omega) h.2 ?_ ?_
  ·intro i k M a K ha hi hp hk hb
   have t0 := a1e (k) (by omega) (by omega)
   have w0 : w64 (k + 1) = k + 1 := A9 (by omega)
   have w1 : w64 (k + 1 + 1) = k + 1 + 1 := A9 (by omega)
   have w2 : w64 (k + 1 + 1 + 1) = k + 1 + 1 + 1 := A9 (by omega)
   have w3 : w64 (k + 1 + 1 + 1 + 1) = k + 1 + 1 + 1 + 1 := A9 (by omega)
   have w4 : w64 (k + 1 + 1 + 1 + 1 + 1) = k + 1 + 1 + 1 + 1 + 1 := A9 (by omega)
   have w5 : w64 (k + 1 + 1 + 1 + 1 + 1 + 1) = k + 1 + 1 + 1 + 1 + 1 + 1 := A9 (by omega)
   refine ⟨(mt (k), k + 1, k + 1 + 1, k + 1 + 1 + 1, k + 1 + 1 + 1 + 1, k + 1 + 1 + 1 + 1 + 1), 6, (by show (0 : Int) ≤ 6; omega), by omega, by omega, ⟨trivial, trivial, trivial, trivial, trivial, trivial⟩, ?_⟩
   have eK : k + 1 + 1 + 1 + 1 + 1 + 1 = k + (6) := by omega
   have wE : w64 (k + (6)) = k + (6) := A9 (by omega)
   simp only [L4, y9 (w8 ha), r9 ha, Option.bind_some, y7, w7 hi, Int.toNat_natCast, a1U, a8l (w8 ha), List.set_set, List.length_set, t0, w0, w1, w2, w3, w4, w5, eK, wE]
  ·intro k M K; simp [L4]
 obtain ⟨L', n, q1, q2, q3, q4, q5, q6⟩ := key
 refine ⟨L', n, q1, q2, by omega, q4, ⟨by rw [q4]; exact h.1, q5⟩, ?_⟩
 trivial
noncomputable def a3y (p : n9) : Prop := OkI p.1 ∧ OkS p.2.1 ∧ OkS p.2.2.1 ∧ OkI p.2.2.2.1 ∧ OkI p.2.2.2.2
noncomputable def a5N (p : n9) : Prop := (fun _ => True) p.1 ∧ SmS p.2.1 ∧ SmS p.2.2.1 ∧ (fun _ => True) p.2.2.2.1 ∧ (fun _ => True) p.2.2.2.2
noncomputable def a1C (p : n9) : Prop := (fun _ => True) p.1 ∧ (fun _ => True) p.2.1 ∧ (fun _ => True) p.2.2.1 ∧ (fun _ => True) p.2.2.2.1 ∧ (fun _ => True) p.2.2.2.2
theorem b7I (p : n9) (h : a5N p) : a1C p := by
 obtain ⟨h0, h1, h2, h3, h4⟩ := h
 exact ⟨trivial, trivial, trivial, trivial, trivial⟩
theorem b8G (x : V) (h : a9w true [.int .i64, .str, .str, .int .i64, .int .i64] x) : ∃ p : n9, x = p8 p ∧ a3y p := by
 obtain ⟨h1, h2⟩ := h
 have h1 : x = .agg x.cells := h1
 obtain ⟨v0, l0, hc, k0, v1, l1, rfl, k1, v2, l2, rfl, k2, v3, l3, rfl, k3, v4, l4, rfl, k4, rfl⟩ := h2
 obtain ⟨a0, rfl, b0⟩ := F3 k0
 obtain ⟨a1, rfl, b1⟩ := a2L k1
 obtain ⟨a2, rfl, b2⟩ := a2L k2
 obtain ⟨a3, rfl, b3⟩ := F3 k3
 obtain ⟨a4, rfl, b4⟩ := F3 k4
 exact ⟨(a0, a1, a2, a3, a4), by rw [h1, hc]; rfl, ⟨b0, b1, b2, b3, b4⟩⟩
theorem c1e (p : n9) (hp : a3y p) (l : Int) (h0 : 0 ≤ l) (hl : l ≤ 1048576) : ∃ r, a0v p l = some r ∧ (r ≤ l ∧ (0 ≤ r → a5N p)) := by
 obtain ⟨o0, o1, o2, o3, o4⟩ := hp
 unfold a0v
 have q1 : p.2.1.length ≤ 9223372036854775807 := o1
 rw [A9 (by omega)]
 rw [A4]
 split
 ·exact ⟨_, rfl, by omega, by omega⟩
 have q2 : p.2.2.1.length ≤ 9223372036854775807 := o2
 rw [A9 (by omega)]
 rw [A4]
 split
 ·exact ⟨_, rfl, by omega, by omega⟩
 exact ⟨_, rfl, by omega, fun _ => ⟨trivial, (by show (p.2.1.length : Int) ≤ 1048576; omega), (by show (p.2.2.1.length : Int) ≤ 1048576; omega), trivial, trivial⟩⟩
theorem c0U (p : n9) (h : a1C p) : a0j p = some p := by
 obtain ⟨s0, s1, s2, s3, s4⟩ := h
 unfold a0j
 rfl
theorem c0h (p : n9) (h : a1C p) : a0h p p = some true := by
 obtain ⟨s0, s1, s2, s3, s4⟩ := h
 simp [a0h]
theorem b9f (L : List n9) (hp : (OkL a3y) L) (l : Int) (h0 : 0 ≤ l) (hl : l ≤ 1048576) : ∃ r, X6 L l = some r ∧ (r ≤ l ∧ (0 ≤ r → (SmL a5N) L)) := by
 obtain ⟨hL, hs⟩ := hp
 unfold X6
 rw [A9 (by omega)]
 simp only [A4]
 split
 ·exact ⟨_, rfl, by omega, by omega⟩
 ·refine G3 (L := L) (fun i s => s.2 = (i : Int) ∧ 0 ≤ s.1 ∧ s.1 ≤ l - (L.length : Int) ∧ ∀ x ∈ L.take i, a5N x) hL ⟨rfl, by omega, by simp, by simp⟩ ?_ ?_
  ·rintro i ⟨m, j⟩ k a ha hi ⟨rfl, h1, h2, h3⟩ hk
   dsimp only at h1 h2 h3
   have oa := hs a (B6 ha)
   obtain ⟨r, q1, q2, q3⟩ := c1e a oa m h1 (by omega)
   simp only [P5, y9 (w8 ha), r9 ha, Option.bind_some, y7, A4, q1]
   split
   ·exact ⟨_, rfl, by omega, by omega⟩
   ·rw [w7 hi]
    refine hk _ ⟨rfl, by dsimp only; omega, by dsimp only; omega, ?_⟩
    intro x hx
    rw [A7 ha] at hx
    rcases List.mem_append.1 hx with hx | hx
    ·exact h3 x hx
    ·rw [List.mem_singleton.1 hx]; exact (q3 (by omega))
  ·rintro ⟨m, j⟩ k ⟨rfl, h1, h2, h3⟩
   dsimp only at h1 h2 h3
   simp only [P5, y3, A0]
   rw [C3 (Nat.le_refl _)] at h3
   exact ⟨_, rfl, by omega, fun _ => ⟨by omega, h3⟩⟩
theorem b8v (L : List n9) (h : (SmL a1C) L) : X8 L = some L := by
 have hL := h.1
 unfold X8
 rw [y1 (by omega)]
 have := G3 (body := J6 L) (L := L) (s0 := (0, List.replicate ((L.length : Int)).toNat ((0, [], [], 0, 0) : n9))) (Q := fun r => r = L) (fun i s => s.1 = (i : Int) ∧ s.2.length = L.length ∧ s.2.take i = L.take i) (by omega) ⟨rfl, by simp, by simp⟩ ?_ ?_
 ·obtain ⟨r, h1, rfl⟩ := this; exact h1
 ·rintro i ⟨j, M⟩ k a ha hi ⟨rfl, h1, h2⟩ hk
  dsimp only at h1 h2
  have hl := w8 ha
  obtain ⟨b, hb⟩ := C5 (L := M) (n := i) (by omega)
  simp only [J6, y9 hl, r9 ha, r9 hb, Option.bind_some, y7, w7 hi, Int.toNat_natCast, c0U a (h.2 a (B6 ha))]
  refine hk _ ⟨rfl, by simpa using h1, ?_⟩
  dsimp only
  rw [A7 ha, A7 (a2M hb), List.take_set_of_le (Nat.le_refl _), h2]
 ·rintro ⟨j, M⟩ k ⟨rfl, h1, h2⟩
  dsimp only at h1 h2
  simp only [J6, y3, A0]
  rw [C3 (Nat.le_of_eq h1), C3 (Nat.le_refl _)] at h2
  exact ⟨_, rfl, h2⟩
theorem b8I (L : List n9) (h : (SmL a1C) L) : Y9 L L = some true := by
 have hL := h.1
 unfold Y9
 simp only [ne_eq, not_true_eq_false, decide_false, A0]
 rw [a0A (L := L) (fun _ => true) (by omega)]
 ·simp
 ·intro i k a ha hi
  simp only [P8, y9 (w8 ha), r9 ha, w7 hi, Option.bind_some, y7, c0h a (h.2 a (B6 ha)), Bool.not_true, A0]
 ·intro k; simp [P8]
noncomputable def b7S (x : n9) (k n : Int) : Prop := 0 ≤ n
theorem b8h (L : List n9) (h : (SmL a1C) L) (k : Int) (h1 : 1 ≤ k) (h2 : k + 5242880 ≤ 4611686018427387904) : ∃ L' n, Z7 L k = some (L', k + n) ∧ 0 ≤ n ∧ n ≤ 5242880 ∧ L'.length = L.length ∧ (SmL a1C) L' ∧ True := by
 have key : ∃ L' n, loop G9 (k, 0, L) = some (L', k + n) ∧ 0 ≤ n ∧ n ≤ 1048576 * 5 ∧ L'.length = L.length ∧ (∀ a ∈ L', a1C a) ∧ X5 b7S L' k n := by
  refine a0D b7S a1C 5 (by omega) L k h.1 h1 (by omega) h.2 ?_ ?_
  ·intro i k M a K ha hi hp hk hb
   have w0 : w64 (k + 1) = k + 1 := A9 (by omega)
   have t1 := a1e (k + 1) (by omega) (by omega)
   have w1 : w64 (k + 1 + 1) = k + 1 + 1 := A9 (by omega)
   have t2 := a1e (k + 1 + 1) (by omega) (by omega)
   have w2 : w64 (k + 1 + 1 + 1) = k + 1 + 1 + 1 := A9 (by omega)
   have w3 : w64 (k + 1 + 1 + 1 + 1) = k + 1 + 1 + 1 + 1 := A9 (by omega)
   have w4 : w64 (k + 1 + 1 + 1 + 1 + 1) = k + 1 + 1 + 1 + 1 + 1 := A9 (by omega)
   refine ⟨(k, mt (k + 1), mt (k + 1 + 1), k + 1 + 1 + 1, k + 1 + 1 + 1 + 1), 5, (by show (0 : Int) ≤ 5; omega), by omega, by omega, ⟨trivial, trivial, trivial, trivial, trivial⟩, ?_⟩
   have eK : k + 1 + 1 + 1 + 1 + 1 = k + (5) := by omega
   have wE : w64 (k + (5)) = k + (5) := A9 (by omega)
   simp only [G9, y9 (w8 ha), r9 ha, Option.bind_some, y7, w7 hi, Int.toNat_natCast, a1U, a8l (w8 ha), List.set_set, List.length_set, w0, t1, w1, t2, w2, w3, w4, eK, wE]
  ·intro k M K; simp [G9]
 obtain ⟨L', n, q1, q2, q3, q4, q5, q6⟩ := key
 refine ⟨L', n, q1, q2, by omega, q4, ⟨by rw [q4]; exact h.1, q5⟩, ?_⟩
 trivial
theorem b8e (L : List (List UInt8)) (hp : (OkL OkS) L) (l : Int) (h0 : 0 ≤ l) (hl : l ≤ 1048576) : ∃ r, Z4 L l = some r ∧ (r ≤ l ∧ (0 ≤ r → (SmL SmS) L)) := by
 obtain ⟨hL, hs⟩ := hp
 unfold Z4
 rw [A9 (by omega)]
 simp only [A4]
 split
 ·exact ⟨_, rfl, by omega, by omega⟩
 ·refine G3 (L := L) (fun i s => s.2 = (i : Int) ∧ 0 ≤ s.1 ∧ s.1 ≤ l - (L.length : Int) ∧ ∀ x ∈ L.take i, SmS x) hL ⟨rfl, by omega, by simp, by simp⟩ ?_ ?_
  ·rintro i ⟨m, j⟩ k a ha hi ⟨rfl, h1, h2, h3⟩ hk
   dsimp only at h1 h2 h3
   have oa := hs a (B6 ha)
   have oa : a.length ≤ 9223372036854775807 := oa
   simp only [Q0, y9 (w8 ha), r9 ha, Option.bind_some, y7, A4]
   rw [A9 (by omega)]
   split
   ·exact ⟨_, rfl, by omega, by omega⟩
   ·rw [w7 hi]
    refine hk _ ⟨rfl, by dsimp only; omega, by dsimp only; omega, ?_⟩
    intro x hx
    rw [A7 ha] at hx
    rcases List.mem_append.1 hx with hx | hx
    ·exact h3 x hx
    ·rw [List.mem_singleton.1 hx]; exact (by show (a.length : Int) ≤ 1048576; omega)
  ·rintro ⟨m, j⟩ k ⟨rfl, h1, h2, h3⟩
   dsimp only at h1 h2 h3
   simp only [Q0, y3, A0]
   rw [C3 (Nat.le_refl _)] at h3
   exact ⟨_, rfl, by omega, fun _ => ⟨by omega, h3⟩⟩
theorem b8K (L : List (List UInt8)) (h : (SmL (fun _ => True)) L) : X9 L = some L := by
 have hL := h.1
 unfold X9
 rw [y1 (by omega)]
 have := G3 (body := J5 L) (L := L) (s0 := (0, List.replicate ((L.length : Int)).toNat ([] : List UInt8))) (Q := fun r => r = L) (fun i s => s.1 = (i : Int) ∧ s.2.length = L.length ∧ s.2.take i = L.take i) (by omega) ⟨rfl, by simp, by simp⟩ ?_ ?_
 ·obtain ⟨r, h1, rfl⟩ := this; exact h1
 ·rintro i ⟨j, M⟩ k a ha hi ⟨rfl, h1, h2⟩ hk
  dsimp only at h1 h2
  have hl := w8 ha
  obtain ⟨b, hb⟩ := C5 (L := M) (n := i) (by omega)
  simp only [J5, y9 hl, r9 ha, r9 hb, Option.bind_some, y7, w7 hi, Int.toNat_natCast]
  refine hk _ ⟨rfl, by simpa using h1, ?_⟩
  dsimp only
  rw [A7 ha, A7 (a2M hb), List.take_set_of_le (Nat.le_refl _), h2]
 ·rintro ⟨j, M⟩ k ⟨rfl, h1, h2⟩
  dsimp only at h1 h2
  simp only [J5, y3, A0]
  rw [C3 (Nat.le_of_eq h1), C3 (Nat.le_refl _)] at h2
  exact ⟨_, rfl, h2⟩
theorem b4E (L : List (List UInt8)) (h : (SmL (fun _ => True)) L) : I0 L L = some true := by
 have hL := h.1
 unfold I0
 simp only [ne_eq, not_true_eq_false, decide_false, A0]
 rw [a0A (L := L) (fun _ => true) (by omega)]
 ·simp
 ·intro i k a ha hi
  simp only [Q3, y9 (w8 ha), r9 ha, w7 hi, Option.bind_some, y7, ne_eq, not_true_eq_false, decide_false, A0]
 ·intro k; simp [Q3]
noncomputable def b7v (x : List UInt8) (k n : Int) : Prop := x = mt k ∧ n = 1
theorem b3x (L : List (List UInt8)) (h : (SmL (fun _ => True)) L) (k : Int) (h1 : 1 ≤ k) (h2 : k + 1048576 ≤ 4611686018427387904) : ∃ L' n, S4 L k = some (L', k + n) ∧ 0 ≤ n ∧ n ≤ 1048576 ∧ L'.length = L.length ∧ (SmL (fun _ => True)) L' ∧ S5 L' k = some (k + n) := by
 have key : ∃ L' n, loop G8 (k, 0, L) = some (L', k + n) ∧ 0 ≤ n ∧ n ≤ 1048576 * 1 ∧ L'.length = L.length ∧ (∀ a ∈ L', (fun _ => True) a) ∧ X5 b7v L' k n := by
  refine a0D b7v (fun _ => True) 1 (by omega) L k h.1 h1 (by omega) h.2 ?_ ?_
  ·intro i k M a K ha hi hp hk hb
   refine ⟨mt k, 1, ⟨rfl, rfl⟩, by omega, by omega, trivial, ?_⟩
   have w1 : w64 (k + 1) = k + 1 := A9 (by omega)
   simp only [G8, a1e k (by omega) (by omega), y9 (w8 ha), r9 ha, Option.bind_some, y7, w7 hi, Int.toNat_natCast, w1]
  ·intro k M K; simp [G8]
 obtain ⟨L', n, q1, q2, q3, q4, q5, q6⟩ := key
 refine ⟨L', n, q1, q2, by omega, q4, ⟨by rw [q4]; exact h.1, q5⟩, ?_⟩
 refine c0G (body := H0 L') q6 (by rw [q4]; exact h.1) q2 h1 (by omega) ?_ ?_
 ·rintro i k a n K ha hi ⟨he, rfl⟩ hn hk hb
  have w1 : w64 (k + 1) = k + 1 := A9 (by omega)
  simp only [H0, he, a1e k (by omega) (by omega), y9 (w8 ha), r9 ha, Option.bind_some, y7, w7 hi, Int.toNat_natCast, w1, ne_eq, not_true_eq_false, decide_false, A0]
 ·intro k K; simp [H0]
noncomputable def a6i (p : p4) : Prop := OkS p.1 ∧ OkI p.2.1 ∧ (OkL OkS) p.2.2
noncomputable def a6c (p : p4) : Prop := SmS p.1 ∧ (fun _ => True) p.2.1 ∧ (SmL SmS) p.2.2
noncomputable def a1B (p : p4) : Prop := (fun _ => True) p.1 ∧ (fun _ => True) p.2.1 ∧ (SmL (fun _ => True)) p.2.2
theorem b7R (p : p4) (h : a6c p) : a1B p := by
 obtain ⟨h0, h1, h2⟩ := h
 exact ⟨trivial, trivial, ⟨h2.1, fun a ha => trivial⟩⟩
theorem b8P (x : V) (h : a9w true [.str, .int .i64, .sl 1 false [.str]] x) : ∃ p : p4, x = p9 p ∧ a6i p := by
 obtain ⟨h1, h2⟩ := h
 have h1 : x = .agg x.cells := h1
 obtain ⟨v0, l0, hc, k0, v1, l1, rfl, k1, v2, l2, rfl, k2, rfl⟩ := h2
 obtain ⟨a0, rfl, b0⟩ := a2L k0
 obtain ⟨a1, rfl, b1⟩ := F3 k1
 obtain ⟨a2, rfl, b2⟩ := (Z6 (a2r fun _ h => a2L h)) k2
 exact ⟨(a0, a1, a2), by rw [h1, hc]; rfl, ⟨b0, b1, b2⟩⟩
theorem c0X (p : p4) (hp : a6i p) (l : Int) (h0 : 0 ≤ l) (hl : l ≤ 1048576) : ∃ r, a0s p l = some r ∧ (r ≤ l ∧ (0 ≤ r → a6c p)) := by
 obtain ⟨o0, o1, o2⟩ := hp
 unfold a0s
 have q0 : p.1.length ≤ 9223372036854775807 := o0
 rw [A9 (by omega)]
 rw [A4]
 split
 ·exact ⟨_, rfl, by omega, by omega⟩
 obtain ⟨r2, e2, m2, s2⟩ := b8e p.2.2 o2 (l - (p.1.length : Int)) (by omega) (by omega)
 rw [e2]
 rw [Option.bind_some, A4]
 split
 ·exact ⟨_, rfl, by omega, by omega⟩
 exact ⟨_, rfl, by omega, fun _ => ⟨(by show (p.1.length : Int) ≤ 1048576; omega), trivial, (s2 (by omega))⟩⟩
theorem c0M (p : p4) (h : a1B p) : a0k p = some p := by
 obtain ⟨s0, s1, s2⟩ := h
 unfold a0k
 simp only [b8K _ s2, Option.bind_some]
theorem c0u (p : p4) (h : a1B p) : a0q p p = some true := by
 obtain ⟨s0, s1, s2⟩ := h
 simp [a0q, b4E _ s2]
theorem b8Y (L : List p4) (hp : (OkL a6i) L) (l : Int) (h0 : 0 ≤ l) (hl : l ≤ 1048576) : ∃ r, X3 L l = some r ∧ (r ≤ l ∧ (0 ≤ r → (SmL a6c) L)) := by
 obtain ⟨hL, hs⟩ := hp
 unfold X3
 rw [A9 (by omega)]
 simp only [A4]
 split
 ·exact ⟨_, rfl, by omega, by omega⟩
 ·refine G3 (L := L) (fun i s => s.2 = (i : Int) ∧ 0 ≤ s.1 ∧ s.1 ≤ l - (L.length : Int) ∧ ∀ x ∈ L.take i, a6c x) hL ⟨rfl, by omega, by simp, by simp⟩ ?_ ?_
  ·rintro i ⟨m, j⟩ k a ha hi ⟨rfl, h1, h2, h3⟩ hk
   dsimp only at h1 h2 h3
   have oa := hs a (B6 ha)
   obtain ⟨r, q1, q2, q3⟩ := c0X a oa m h1 (by omega)
   simp only [Q1, y9 (w8 ha), r9 ha, Option.bind_some, y7, A4, q1]
   split
   ·exact ⟨_, rfl, by omega, by omega⟩
   ·rw [w7 hi]
    refine hk _ ⟨rfl, by dsimp only; omega, by dsimp only; omega, ?_⟩
    intro x hx
    rw [A7 ha] at hx
    rcases List.mem_append.1 hx with hx | hx
    ·exact h3 x hx
    ·rw [List.mem_singleton.1 hx]; exact (q3 (by omega))
  ·rintro ⟨m, j⟩ k ⟨rfl, h1, h2, h3⟩
   dsimp only at h1 h2 h3
   simp only [Q1, y3, A0]
   rw [C3 (Nat.le_refl _)] at h3
   exact ⟨_, rfl, by omega, fun _ => ⟨by omega, h3⟩⟩
theorem b8i (L : List p4) (h : (SmL a1B) L) : Z1 L = some L := by
 have hL := h.1
 unfold Z1
 rw [y1 (by omega)]
 have := G3 (body := J3 L) (L := L) (s0 := (0, List.replicate ((L.length : Int)).toNat (([], 0, []) : p4))) (Q := fun r => r = L) (fun i s => s.1 = (i : Int) ∧ s.2.length = L.length ∧ s.2.take i = L.take i) (by omega) ⟨rfl, by simp, by simp⟩ ?_ ?_
 ·obtain ⟨r, h1, rfl⟩ := this; exact h1
 ·rintro i ⟨j, M⟩ k a ha hi ⟨rfl, h1, h2⟩ hk
  dsimp only at h1 h2
  have hl := w8 ha
  obtain ⟨b, hb⟩ := C5 (L := M) (n := i) (by omega)
  simp only [J3, y9 hl, r9 ha, r9 hb, Option.bind_some, y7, w7 hi, Int.toNat_natCast, c0M a (h.2 a (B6 ha))]
  refine hk _ ⟨rfl, by simpa using h1, ?_⟩
  dsimp only
  rw [A7 ha, A7 (a2M hb), List.take_set_of_le (Nat.le_refl _), h2]
 ·rintro ⟨j, M⟩ k ⟨rfl, h1, h2⟩
  dsimp only at h1 h2
  simp only [J3, y3, A0]
  rw [C3 (Nat.le_of_eq h1), C3 (Nat.le_refl _)] at h2
  exact ⟨_, rfl, h2⟩
theorem b8U (L : List p4) (h : (SmL a1B) L) : Z3 L L = some true := by
 have hL := h.1
 unfold Z3
 simp only [ne_eq, not_true_eq_false, decide_false, A0]
 rw [a0A (L := L) (fun _ => true) (by omega)]
 ·simp
 ·intro i k a ha hi
  simp only [P1, y9 (w8 ha), r9 ha, w7 hi, Option.bind_some, y7, c0u a (h.2 a (B6 ha)), Bool.not_true, A0]
 ·intro k; simp [P1]
noncomputable def b6O (x : p4) (k n : Int) : Prop := 0 ≤ n
theorem b9g (L : List p4) (h : (SmL a1B) L) (k : Int) (h1 : 1 ≤ k) (h2 : k + 1099513724928 ≤ 4611686018427387904) : ∃ L' n, a0e L k = some (L', k + n) ∧ 0 ≤ n ∧ n ≤ 1099513724928 ∧ L'.length = L.length ∧ (SmL a1B) L' ∧ True := by
 have key : ∃ L' n, loop G6 (k, 0, L) = some (L', k + n) ∧ 0 ≤ n ∧ n ≤ 1048576 * 1048578 ∧ L'.length = L.length ∧ (∀ a ∈ L', a1B a) ∧ X5 b6O L' k n := by
  refine a0D b6O a1B 1048578 (by omega) L k h.1 h1 (by omega) h.2 ?_ ?_
  ·intro i k M a K ha hi hp hk hb
   have t0 := a1e (k) (by omega) (by omega)
   have w0 : w64 (k + 1) = k + 1 := A9 (by omega)
   have w1 : w64 (k + 1 + 1) = k + 1 + 1 := A9 (by omega)
   obtain ⟨b2, n2, q2, r2, s2, l2, c2, e2⟩ := b3x a.2.2 hp.2.2 (k + 1 + 1) (by omega) (by omega)
   refine ⟨(mt (k), k + 1, b2), 2 + n2, (by show (0 : Int) ≤ 2 + n2; omega), by omega, by omega, ⟨trivial, trivial, c2⟩, ?_⟩
   have eK : k + 1 + 1 + n2 = k + (2 + n2) := by omega
   have wE : w64 (k + (2 + n2)) = k + (2 + n2) := A9 (by omega)
   simp only [G6, y9 (w8 ha), r9 ha, Option.bind_some, y7, w7 hi, Int.toNat_natCast, a1U, a8l (w8 ha), List.set_set, List.length_set, t0, w0, w1, q2, y1 l2, eK, wE]
  ·intro k M K; simp [G6]
 obtain ⟨L', n, q1, q2, q3, q4, q5, q6⟩ := key
 refine ⟨L', n, q1, q2, by omega, q4, ⟨by rw [q4]; exact h.1, q5⟩, ?_⟩
 trivial
noncomputable def b0L (p : y8) : Prop := b2M (p.1, p.2.1, p.2.2.1, p.2.2.2.1, p.2.2.2.2.1, p.2.2.2.2.2.1) ∧ (OkL b8j) p.2.2.2.2.2.2.1 ∧ b4e (p.2.2.2.2.2.2.2.1, p.2.2.2.2.2.2.2.2.1) ∧ (OkL (OkL OkI)) p.2.2.2.2.2.2.2.2.2.1 ∧ (OkL a0Y) p.2.2.2.2.2.2.2.2.2.2.1 ∧ (OkL a6f) p.2.2.2.2.2.2.2.2.2.2.2.1 ∧ (OkL a5z) p.2.2.2.2.2.2.2.2.2.2.2.2.1 ∧ (OkL a3y) p.2.2.2.2.2.2.2.2.2.2.2.2.2.1 ∧ (OkL a6i) p.2.2.2.2.2.2.2.2.2.2.2.2.2.2
noncomputable def b5V (p : y8) : Prop := b8z (p.1, p.2.1, p.2.2.1, p.2.2.2.1, p.2.2.2.2.1, p.2.2.2.2.2.1) ∧ (SmL b9m) p.2.2.2.2.2.2.1 ∧ b4u (p.2.2.2.2.2.2.2.1, p.2.2.2.2.2.2.2.2.1) ∧ (SmL (SmL (fun _ => True))) p.2.2.2.2.2.2.2.2.2.1 ∧ (SmL a3A) p.2.2.2.2.2.2.2.2.2.2.1 ∧ (SmL a5G) p.2.2.2.2.2.2.2.2.2.2.2.1 ∧ (SmL b2X) p.2.2.2.2.2.2.2.2.2.2.2.2.1 ∧ (SmL a5N) p.2.2.2.2.2.2.2.2.2.2.2.2.2.1 ∧ (SmL a6c) p.2.2.2.2.2.2.2.2.2.2.2.2.2.2
noncomputable def b2Z (p : y8) : Prop := b1h (p.1, p.2.1, p.2.2.1, p.2.2.2.1, p.2.2.2.2.1, p.2.2.2.2.2.1) ∧ (SmL a4a) p.2.2.2.2.2.2.1 ∧ a4v (p.2.2.2.2.2.2.2.1, p.2.2.2.2.2.2.2.2.1) ∧ (SmL (SmL (fun _ => True))) p.2.2.2.2.2.2.2.2.2.1 ∧ (SmL X0) p.2.2.2.2.2.2.2.2.2.2.1 ∧ (SmL Q7) p.2.2.2.2.2.2.2.2.2.2.2.1 ∧ (SmL a3Z) p.2.2.2.2.2.2.2.2.2.2.2.2.1 ∧ (SmL a1C) p.2.2.2.2.2.2.2.2.2.2.2.2.2.1 ∧ (SmL a1B) p.2.2.2.2.2.2.2.2.2.2.2.2.2.2
theorem c0E (p : y8) (h : b5V p) : b2Z p := by
 obtain ⟨h0, h1, h2, h3, h4, h5, h6, h7, h8⟩ := h
 exact ⟨(c0B (p.1, p.2.1, p.2.2.1, p.2.2.2.1, p.2.2.2.2.1, p.2.2.2.2.2.1) h0), ⟨h1.1, fun a ha => (c0F a (h1.2 a ha))⟩, (b7L (p.2.2.2.2.2.2.2.1, p.2.2.2.2.2.2.2.2.1) h2), ⟨h3.1, fun a ha => ⟨(h3.2 a ha).1, fun a ha => trivial⟩⟩, ⟨h4.1, fun a ha => (b4T a (h4.2 a ha))⟩, ⟨h5.1, fun a ha => (b4q a (h5.2 a ha))⟩, ⟨h6.1, fun a ha => (c1f a (h6.2 a ha))⟩, ⟨h7.1, fun a ha => (b7I a (h7.2 a ha))⟩, ⟨h8.1, fun a ha => (b7R a (h8.2 a ha))⟩⟩
theorem c2t (x : V) (h : a9w true [.str, .sl 1 false [.int .i64], .sl 1 false [.int .i64], .int .i64, .int .i64, .sl 1 false [.sl 1 false [.int .i64]], .sl 2 true [.int .i64, .int .i64], .str, .sl 2 true [.int .i64, .int .i64], .sl 1 false [.sl 1 false [.int .i64]], .sl 3 true [.str, .int .i64, .int .i64], .sl 2 true [.int .i64, .int .i64], .sl 6 true [.str, .int .i64, .int .i64, .int .i64, .int .i64, .int .i64], .sl 5 true [.int .i64, .str, .str, .int .i64, .int .i64], .sl 3 true [.str, .int .i64, .sl 1 false [.str]]] x) : ∃ p : y8, x = a9S p ∧ b0L p := by
 obtain ⟨h1, h2⟩ := h
 have h1 : x = .agg x.cells := h1
 obtain ⟨v0, l0, hc, k0, v1, l1, rfl, k1, v2, l2, rfl, k2, v3, l3, rfl, k3, v4, l4, rfl, k4, v5, l5, rfl, k5, v6, l6, rfl, k6, v7, l7, rfl, k7, v8, l8, rfl, k8, v9, l9, rfl, k9, v10, l10, rfl, k10, v11, l11, rfl, k11, v12, l12, rfl, k12, v13, l13, rfl, k13, v14, l14, rfl, k14, rfl⟩ := h2
 obtain ⟨a0, rfl, b0⟩ := a2L k0
 obtain ⟨a1, rfl, b1⟩ := (Z6 (a2r fun _ h => F3 h)) k1
 obtain ⟨a2, rfl, b2⟩ := (Z6 (a2r fun _ h => F3 h)) k2
 obtain ⟨a3, rfl, b3⟩ := F3 k3
 obtain ⟨a4, rfl, b4⟩ := F3 k4
 obtain ⟨a5, rfl, b5⟩ := (Z6 (a2r fun _ h => (Z6 (a2r fun _ h => F3 h)) h)) k5
 obtain ⟨a6, rfl, b6⟩ := (Z6 c1k) k6
 obtain ⟨a7, rfl, b7⟩ := a2L k7
 obtain ⟨a8, rfl, b8⟩ := (Z6 b5n) k8
 obtain ⟨a9, rfl, b9⟩ := (Z6 (a2r fun _ h => (Z6 (a2r fun _ h => F3 h)) h)) k9
 obtain ⟨a10, rfl, b10⟩ := (Z6 b6e) k10
 obtain ⟨a11, rfl, b11⟩ := (Z6 b4L) k11
 obtain ⟨a12, rfl, b12⟩ := (Z6 c1R) k12
 obtain ⟨a13, rfl, b13⟩ := (Z6 b8G) k13
 obtain ⟨a14, rfl, b14⟩ := (Z6 b8P) k14
 exact ⟨(a0, a1, a2, a3, a4, a5, a6, a7, a8, a9, a10, a11, a12, a13, a14), by rw [h1, hc]; rfl, ⟨⟨b0, b1, b2, b3, b4, b5⟩, b6, ⟨b7, b8⟩, b9, b10, b11, b12, b13, b14⟩⟩
theorem c3u (p : y8) (hp : b0L p) (l : Int) (h0 : 0 ≤ l) (hl : l ≤ 1048576) : ∃ r, a1y p l = some r ∧ (r ≤ l ∧ (0 ≤ r → b5V p)) := by
 obtain ⟨o0, o1, o2, o3, o4, o5, o6, o7, o8⟩ := hp
 unfold a1y
 obtain ⟨r0, e0, m0, s0⟩ := c3A (p.1, p.2.1, p.2.2.1, p.2.2.2.1, p.2.2.2.2.1, p.2.2.2.2.2.1) o0 l (by omega) (by omega)
 rw [e0]
 rw [Option.bind_some, A4]
 split
 ·exact ⟨_, rfl, by omega, by omega⟩
 obtain ⟨r1, e1, m1, s1⟩ := c2b p.2.2.2.2.2.2.1 o1 r0 (by omega) (by omega)
 rw [e1]
 rw [Option.bind_some, A4]
 split
 ·exact ⟨_, rfl, by omega, by omega⟩
 obtain ⟨r2, e2, m2, s2⟩ := b9Z (p.2.2.2.2.2.2.2.1, p.2.2.2.2.2.2.2.2.1) o2 r1 (by omega) (by omega)
 rw [e2]
 rw [Option.bind_some, A4]
 split
 ·exact ⟨_, rfl, by omega, by omega⟩
 obtain ⟨r3, e3, m3, s3⟩ := b3M p.2.2.2.2.2.2.2.2.2.1 o3 r2 (by omega) (by omega)
 rw [e3]
 rw [Option.bind_some, A4]
 split
 ·exact ⟨_, rfl, by omega, by omega⟩
 obtain ⟨r4, e4, m4, s4⟩ := b5T p.2.2.2.2.2.2.2.2.2.2.1 o4 r3 (by omega) (by omega)
 rw [e4]
 rw [Option.bind_some, A4]
 split
 ·exact ⟨_, rfl, by omega, by omega⟩
 obtain ⟨r5, e5, m5, s5⟩ := b4S p.2.2.2.2.2.2.2.2.2.2.2.1 o5 r4 (by omega) (by omega)
 rw [e5]
 rw [Option.bind_some, A4]
 split
 ·exact ⟨_, rfl, by omega, by omega⟩
 obtain ⟨r6, e6, m6, s6⟩ := c2X p.2.2.2.2.2.2.2.2.2.2.2.2.1 o6 r5 (by omega) (by omega)
 rw [e6]
 rw [Option.bind_some, A4]
 split
 ·exact ⟨_, rfl, by omega, by omega⟩
 obtain ⟨r7, e7, m7, s7⟩ := b9f p.2.2.2.2.2.2.2.2.2.2.2.2.2.1 o7 r6 (by omega) (by omega)
 rw [e7]
 rw [Option.bind_some, A4]
 split
 ·exact ⟨_, rfl, by omega, by omega⟩
 obtain ⟨r8, e8, m8, s8⟩ := b8Y p.2.2.2.2.2.2.2.2.2.2.2.2.2.2 o8 r7 (by omega) (by omega)
 rw [e8]
 rw [Option.bind_some, A4]
 split
 ·exact ⟨_, rfl, by omega, by omega⟩
 exact ⟨_, rfl, by omega, fun _ => ⟨(s0 (by omega)), (s1 (by omega)), (s2 (by omega)), (s3 (by omega)), (s4 (by omega)), (s5 (by omega)), (s6 (by omega)), (s7 (by omega)), (s8 (by omega))⟩⟩
theorem c3Z (p : y8) (h : b2Z p) : Q6 p = some p := by
 obtain ⟨s0, s1, s2, s3, s4, s5, s6, s7, s8⟩ := h
 unfold Q6
 simp only [c4i _ s0, c2o _ s1, c0H _ s2, b3J _ s3, b6p _ s4, b4Q _ s5, c2m _ s6, b8v _ s7, b8i _ s8, Option.bind_some]
theorem c3r (p : y8) (h : b2Z p) : a1z p p = some true := by
 obtain ⟨s0, s1, s2, s3, s4, s5, s6, s7, s8⟩ := h
 simp [a1z, c3C _ s0, c2i _ s1, c1g _ s2, b4v _ s3, b6a _ s4, b4P _ s5, c1h _ s6, b8I _ s7, b8U _ s8]
theorem c4h (p : y8) (h : b2Z p) (k : Int) (h1 : 1 ≤ k) (h2 : k + 3298560049156 ≤ 4611686018427387904) : ∃ (p' : y8) (n : Int), H4 p k = some (p', k + n) ∧ 0 ≤ n ∧ n ≤ 3298560049156 ∧ ((p').2.1.length = p.2.1.length ∧ (p').2.2.1.length = p.2.2.1.length ∧ (p').2.2.2.2.2.1.length = p.2.2.2.2.2.1.length ∧ (p').2.2.2.2.2.2.1.length = p.2.2.2.2.2.2.1.length ∧ (p').2.2.2.2.2.2.2.2.1.length = p.2.2.2.2.2.2.2.2.1.length ∧ (p').2.2.2.2.2.2.2.2.2.1.length = p.2.2.2.2.2.2.2.2.2.1.length ∧ (p').2.2.2.2.2.2.2.2.2.2.1.length = p.2.2.2.2.2.2.2.2.2.2.1.length ∧ (p').2.2.2.2.2.2.2.2.2.2.2.1.length = p.2.2.2.2.2.2.2.2.2.2.2.1.length ∧ (p').2.2.2.2.2.2.2.2.2.2.2.2.1.length = p.2.2.2.2.2.2.2.2.2.2.2.2.1.length ∧ (p').2.2.2.2.2.2.2.2.2.2.2.2.2.1.length = p.2.2.2.2.2.2.2.2.2.2.2.2.2.1.length ∧ (p').2.2.2.2.2.2.2.2.2.2.2.2.2.2.length = p.2.2.2.2.2.2.2.2.2.2.2.2.2.2.length) ∧ b2Z p' ∧ True := by
 obtain ⟨b0, n0, q0, r0, s0, l0, c0, e0⟩ := c4m (p.1, p.2.1, p.2.2.1, p.2.2.2.1, p.2.2.2.2.1, p.2.2.2.2.2.1) h.1 (k) (by omega) (by omega)
 have l0x1 : b0.2.1.length = p.2.1.length := l0.1
 have l0x2 : b0.2.2.1.length = p.2.2.1.length := l0.2.1
 have l0x5 : b0.2.2.2.2.2.length = p.2.2.2.2.2.1.length := l0.2.2
 have d0 : decide ((k + n0 : Int) < 0) = false := decide_eq_false (by omega)
 obtain ⟨b1, n1, q1, r1, s1, l1, c1, e1⟩ := c1n p.2.2.2.2.2.2.1 h.2.1 (k + n0) (by omega) (by omega)
 have d1 : decide ((k + n0 + n1 : Int) < 0) = false := decide_eq_false (by omega)
 obtain ⟨b2, n2, q2, r2, s2, l2, c2, e2⟩ := c1c (p.2.2.2.2.2.2.2.1, p.2.2.2.2.2.2.2.2.1) h.2.2.1 (k + n0 + n1) (by omega) (by omega)
 have l2x1 : b2.2.length = p.2.2.2.2.2.2.2.2.1.length := l2
 have d2 : decide ((k + n0 + n1 + n2 : Int) < 0) = false := decide_eq_false (by omega)
 obtain ⟨b3, n3, q3, r3, s3, l3, c3, e3⟩ := b3G p.2.2.2.2.2.2.2.2.2.1 h.2.2.2.1 (k + n0 + n1 + n2) (by omega) (by omega)
 have d3 : decide ((k + n0 + n1 + n2 + n3 : Int) < 0) = false := decide_eq_false (by omega)
 obtain ⟨b4, n4, q4, r4, s4, l4, c4, e4⟩ := b6r p.2.2.2.2.2.2.2.2.2.2.1 h.2.2.2.2.1 (k + n0 + n1 + n2 + n3) (by omega) (by omega)
 have d4 : decide ((k + n0 + n1 + n2 + n3 + n4 : Int) < 0) = false := decide_eq_false (by omega)
 obtain ⟨b5, n5, q5, r5, s5, l5, c5, e5⟩ := b4M p.2.2.2.2.2.2.2.2.2.2.2.1 h.2.2.2.2.2.1 (k + n0 + n1 + n2 + n3 + n4) (by omega) (by omega)
 have d5 : decide ((k + n0 + n1 + n2 + n3 + n4 + n5 : Int) < 0) = false := decide_eq_false (by omega)
 obtain ⟨b6, n6, q6, r6, s6, l6, c6, e6⟩ := c2N p.2.2.2.2.2.2.2.2.2.2.2.2.1 h.2.2.2.2.2.2.1 (k + n0 + n1 + n2 + n3 + n4 + n5) (by omega) (by omega)
 have d6 : decide ((k + n0 + n1 + n2 + n3 + n4 + n5 + n6 : Int) < 0) = false := decide_eq_false (by omega)
 obtain ⟨b7, n7, q7, r7, s7, l7, c7, e7⟩ := b8h p.2.2.2.2.2.2.2.2.2.2.2.2.2.1 h.2.2.2.2.2.2.2.1 (k + n0 + n1 + n2 + n3 + n4 + n5 + n6) (by omega) (by omega)
 have d7 : decide ((k + n0 + n1 + n2 + n3 + n4 + n5 + n6 + n7 : Int) < 0) = false := decide_eq_false (by omega)
 obtain ⟨b8, n8, q8, r8, s8, l8, c8, e8⟩ := b9g p.2.2.2.2.2.2.2.2.2.2.2.2.2.2 h.2.2.2.2.2.2.2.2 (k + n0 + n1 + n2 + n3 + n4 + n5 + n6 + n7) (by omega) (by omega)
 have d8 : decide ((k + n0 + n1 + n2 + n3 + n4 + n5 + n6 + n7 + n8 : Int) < 0) = false := decide_eq_false (by omega)
 have eK : k + n0 + n1 + n2 + n3 + n4 + n5 + n6 + n7 + n8 = k + (n0 + n1 + n2 + n3 + n4 + n5 + n6 + n7 + n8) := by omega
 have wE : w64 (k + (n0 + n1 + n2 + n3 + n4 + n5 + n6 + n7 + n8)) = k + (n0 + n1 + n2 + n3 + n4 + n5 + n6 + n7 + n8) := A9 (by omega)
 refine ⟨(p.1, b0.2.1, b0.2.2.1, p.2.2.2.1, p.2.2.2.2.1, b0.2.2.2.2.2, b1, p.2.2.2.2.2.2.2.1, b2.2, b3, b4, b5, b6, b7, b8), n0 + n1 + n2 + n3 + n4 + n5 + n6 + n7 + n8, ?_, by omega, by omega, ⟨l0x1, l0x2, l0x5, l1, l2x1, l3, l4, l5, l6, l7, l8⟩, ⟨c0, c1, c2, c3, c4, c5, c6, c7, c8⟩, ?_⟩
 ·simp only [H4, q0, y1 l0x1, y1 l0x2, y1 l0x5, q1, y1 l1, q2, y1 l2x1, q3, y1 l3, q4, y1 l4, q5, y1 l5, q6, y1 l6, q7, y1 l7, q8, y1 l8, Option.bind_some, eK, wE]
 ·trivial
end Go.Ab
