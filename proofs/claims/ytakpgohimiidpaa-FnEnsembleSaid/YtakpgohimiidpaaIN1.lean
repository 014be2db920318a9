import Derived.Test.YtakpgohimiidpaaIN0
set_option linter.unusedVariables false
set_option linter.unusedSimpArgs false
namespace Go.Ab
open Go.RowKit Go.Proofs Go.Sort Go.Lib
structure SetAt (w w' : World) (b : Nat) (e : TypeId) (fz : Nat × Nat) (cur cur' : Array Value) (o : Nat) (vs : List Value) : Prop where
 os : w'.os = w.os
 tape : w'.tape = w.tape
 output : w'.output = w.output
 size : w'.heap.size = w.heap.size
 oth : ∀ k : Nat, k ≠ b → w'.heap[k]? = w.heap[k]?
 at_ : w'.heap[b]? = some (.cells cur' e fz)
 csz : cur'.size = cur.size
 inn : ∀ (j : Nat) v, vs[j]? = some v → o + j < cur.size → cur'[o + j]? = some v
 out : ∀ k : Nat, (k < o ∨ o + vs.length ≤ k) → cur'[k]? = cur[k]?
theorem setCells_at {b : Nat} {e : TypeId} {fz : Nat × Nat} : ∀ (vs : List Value) (o : Nat) (w : World) (cur : Array Value), w.heap[b]? = some (.cells cur e fz) → ∃ cur', SetAt w (w.setCells b o vs) b e fz cur cur' o vs
 | [], o, w, cur, h => ⟨cur, rfl, rfl, rfl, rfl, fun _ _ => rfl, h, rfl, fun j v hj => by simp at hj, fun _ _ => rfl⟩
 | v :: r, o, w, cur, h => by
  have h1 : (w.setCell ⟨b, o, none⟩ v).heap[b]? = some (.cells (cur.setIfInBounds o v) e fz) := by
   simp [World.setCell, Array.getElem?_modify, h]
  obtain ⟨cur', s⟩ := setCells_at r (o + 1) (w.setCell ⟨b, o, none⟩ v) _ h1
  refine ⟨cur', s.os, s.tape, s.output, by rw [World.setCells, s.size]; simp [World.setCell], ?_, s.at_, by rw [s.csz]; simp, ?_, ?_⟩
  ·intro k hk
   rw [World.setCells, s.oth k hk]
   have : ¬ b = k := fun e => hk e.symm
   simp [World.setCell, Array.getElem?_modify, this]
  ·intro j u hj hlt
   cases j with
   | zero =>
    simp at hj; subst hj
    rw [s.out (o + 0) (.inl (by omega)), Nat.add_zero, Array.getElem?_setIfInBounds_self_of_lt (by omega)]
   | succ j =>
    have := s.inn j u (by simpa using hj) (by simp; omega)
    rw [show o + (j + 1) = o + 1 + j by omega]; exact this
  ·intro k hk
   rw [s.out k (by simp only [List.length_cons] at hk; omega)]
   rw [Array.getElem?_setIfInBounds_ne (by simp only [List.length_cons] at hk; omega)]
noncomputable def F_ins {α : Type} (bytes : Nat) (A : List α) (i : Int) (B : List α) : Option (List α) := need ((0 ≤ i ∧ i ≤ A.length) ∧ 0 < B.length ∧ room (A.length + B.length) bytes) (some (A.take i.toNat ++ B ++ A.drop i.toNat))
section
variable {w : World} {D : BSet} {K : Nat}
theorem row_of {L : List V} {us : List Value} {D0 : BSet} {o0 : Bool} {w0 : World} {S0 : BSet} (hr : Reps w0 D0 o0 (L.flatMap V.cells) us S0) (hs : ∀ c ∈ L.flatMap V.cells, V.scalar c = true) (hu : Uni K L) {g o c : Nat} {cur : Array Value} {ty : TypeId}
  (hg : w.heap[g]? = some (.cells cur ty (0, 0))) (hin : ∀ (j : Nat) u, us[j]? = some u → cur[o + j]? = some u) (hc : L.length ≤ c) (hm : c ≤ maxLen) (hz : o + c * K ≤ cur.size) :
  R1Rep w D (.row true K L) (.slice (some ⟨g, o, none⟩) L.length c) (fun q => q = g) :=
 .row (T := Emp) rfl (fun _ h => h.elim) (fun h => h.elim) ⟨cur, ty, hg, hin⟩ hu (scalars_any (D' := D) (o' := true) (((scalars_any (D' := Emp) (o' := false) hr hs)).keep (w' := w) (D' := D) (fun _ h => h.elim) (fun h => by cases h)) hs) hc hm ⟨cur, ty, hg, fun _ => hz⟩
end
theorem list_get_append {α : Type} {L M : List α} {j : Nat} {u : α} (h : (L ++ M)[j]? = some u) : (L[j]? = some u) ∨ (L.length ≤ j ∧ M[j - L.length]? = some u) := by
 rcases Nat.lt_or_ge j L.length with h1 | h1
 ·rw [List.getElem?_append_left h1] at h; exact .inl h
 ·rw [List.getElem?_append_right h1] at h; exact .inr ⟨h1, h⟩
structure Roads (P : Program) (f te K bytes : Nat) (z : Array Value) : Prop where
 shift : ∀ (b off n c i vb voff m vc : Nat) (cs vs : List Value) (w : World), i < n → 0 < m → n + m ≤ c → c ≤ 9223372036854775807 → vb ≠ b → cs.length = n * K → vs.length = m * K →
  (∀ j v, cs[j]? = some v → w.cell? ⟨b, off + j, none⟩ = some v) → (∀ j, j < (n + m) * K → (w.cell? ⟨b, off + j, none⟩).isSome = true) → (∀ j, w.frozen? ⟨b, j, none⟩ = false) →
  (∀ j v, vs[j]? = some v → w.cell? ⟨vb, voff + j, none⟩ = some v) → (∀ v ∈ cs, v.oneCell' = true) → (∀ v ∈ vs, v.oneCell' = true) →
  ∀ (cA cB : Array Value) (tA tB : TypeId) (fA : Nat × Nat), w.heap[vb]? = some (.cells cA tA fA) → cA.size ≠ 0 → w.heap[b]? = some (.cells cB tB (0, 0)) → cB.size ≠ 0 →
  Calls P f #[.slice (some ⟨b, off, none⟩) n c, .int .i64 i, .slice (some ⟨vb, voff, none⟩) m vc] w fun e w' =>
   e = .returned (.slice (some ⟨b, off, none⟩) (n + m) c) ∧ w' = (w.drew.setCells b (off + (i + m) * K) (cs.drop (i * K))).setCells b (off + i * K) vs
 room : ∀ (b off n c vb voff m vc : Nat) (vs : List Value) (w : World), 0 < m → n + m ≤ c → c ≤ 9223372036854775807 → vs.length = m * K →
  (∀ j, j < m * K → (w.cell? ⟨b, off + n * K + j, none⟩).isSome = true) → (∀ j, w.frozen? ⟨b, j, none⟩ = false) → (∀ j v, vs[j]? = some v → w.cell? ⟨vb, voff + j, none⟩ = some v) → (∀ v ∈ vs, v.oneCell' = true) →
  Calls P f #[.slice (some ⟨b, off, none⟩) n c, .int .i64 n, .slice (some ⟨vb, voff, none⟩) m vc] w fun e w' =>
   e = .returned (.slice (some ⟨b, off, none⟩) (n + m) c) ∧ w' = w.setCells b (off + n * K) vs
 endg : ∀ (base : Option Addr) (n c vb voff m vc : Nat) (cs vs : List Value) (w : World), 0 < m → n ≤ c → c < n + m → (n + m) * bytes ≤ 140737488355328 → cs.length = n * K → vs.length = m * K → (base = none → n = 0) →
  (∀ a, base = some a → ∀ j v, cs[j]? = some v → w.cell? (a.add j) = some v) → (∀ j v, vs[j]? = some v → w.cell? ⟨vb, voff + j, none⟩ = some v) → (∀ v ∈ vs, v.oneCell' = true) →
  Calls P f #[.slice base n c, .int .i64 n, .slice (some ⟨vb, voff, none⟩) m vc] w fun e w' =>
   e = .returned (.slice (some ⟨w.heap.size, 0, none⟩) (n + m) (grownCap w (n + m) c te)) ∧
   w' = w.drew.alloc (.cells ((cs ++ vs).toArray ++ Builtin.zeroCells z (grownCap w (n + m) c te - (n + m))) te)
 grow : ∀ (b off n c i vb voff m vc : Nat) (cs vs : List Value) (w : World), i < n → 0 < m → n ≤ c → c < n + m → (n + m) * bytes ≤ 140737488355328 → cs.length = n * K → vs.length = m * K →
  (∀ j v, cs[j]? = some v → w.cell? ⟨b, off + j, none⟩ = some v) → (∀ j v, vs[j]? = some v → w.cell? ⟨vb, voff + j, none⟩ = some v) → (∀ v ∈ cs, v.oneCell' = true) → (∀ v ∈ vs, v.oneCell' = true) →
  Calls P f #[.slice (some ⟨b, off, none⟩) n c, .int .i64 i, .slice (some ⟨vb, voff, none⟩) m vc] w fun e w' =>
   e = .returned (.slice (some ⟨w.heap.size, 0, none⟩) (n + m) (grownCap w (n + m) c te)) ∧
   w' = (((w.alloc (.cells ((cs.take (i * K)).toArray ++ Builtin.zeroCells z (n + m - i) ++ Builtin.zeroCells z (grownCap w (n + m) c te - (n + m))) te)).drew.setCells w.heap.size (i * K) vs).drew).setCells w.heap.size ((i + m) * K) (cs.drop (i * K))
section
variable {α : Type} {e : α → V} {P : Program} {f te K bytes : Nat} {z : Array Value}
theorem set_stays {w w1 w2 : World} {S : BSet} {x : Value} {b : Nat} (hS : S b) (hb : b < w.heap.size) (h0 : w1.os = w.os ∧ w1.tape = w.tape ∧ w1.output = w.output ∧ w1.heap = w.heap) {ty : TypeId} {cur cur' : Array Value}
  (hc : w.heap[b]? = some (.cells cur ty (0, 0))) (h1 : w2.os = w1.os) (h2 : w2.tape = w1.tape) (h3 : w2.output = w1.output) (h4 : w2.heap.size = w1.heap.size) (h5 : ∀ k : Nat, k ≠ b → w2.heap[k]? = w1.heap[k]?) (h6 : w2.heap[b]? = some (.cells cur' ty (0, 0))) (h7 : cur'.size = cur.size) : Stays ⟨w, S, x⟩ w2 := by
 obtain ⟨a1, a2, a3, a4⟩ := h0
 refine ⟨h1.trans a1, h2.trans a2, h3.trans a3, ?_, ?_, ?_⟩
 ·show w.heap.size ≤ w2.heap.size
  rw [h4, a4]; exact Nat.le_refl _
 ·intro k hk hn
  have : k ≠ b := fun e => hn (e ▸ hS)
  show w2.heap[k]? = w.heap[k]?
  rw [h5 k this, a4]
 ·intro k cu t hk
  have hk : w.heap[k]? = some (.cells cu t (0, 0)) := hk
  by_cases e : k = b
  ·subst e
   rw [hc] at hk
   cases hk
   exact ⟨cur', ty, h6, h7⟩
  ·exact ⟨cu, t, by rw [h5 k e, a4]; exact hk, rfl⟩
theorem new_stays {w w2 : World} {S : BSet} {x : Value} (h1 : w2.os = w.os) (h2 : w2.tape = w.tape) (h3 : w2.output = w.output) (h4 : w2.heap.size = w.heap.size + 1) (h5 : ∀ k : Nat, k < w.heap.size → w2.heap[k]? = w.heap[k]?) : Stays ⟨w, S, x⟩ w2 := by
 refine ⟨h1, h2, h3, ?_, ?_, ?_⟩
 ·show w.heap.size ≤ w2.heap.size
  omega
 ·intro k hk hn; exact h5 k hk
 ·intro k cu t hk
  have hk : w.heap[k]? = some (.cells cu t (0, 0)) := hk
  have hlt : k < w.heap.size := by
   rcases Nat.lt_or_ge k w.heap.size with h | h
   ·exact h
   ·rw [Array.getElem?_eq_none h] at hk; cases hk
  exact ⟨cu, t, by rw [h5 k hlt]; exact hk, rfl⟩
theorem conX_ins (R : Roads P f te K bytes z) (hK : 0 < K) (hz : z.size = K) (he : ∀ a, (e a).cells.length = K ∧ ∀ c ∈ (e a).cells, V.scalar c = true) {A B r : List α} {i : Int} (h : F_ins bytes A i B = some r) :
  ConX P f true K (A.map e) [.int .i64 i, .sl K (B.map e)] (.r true K (r.map e)) := by
 obtain ⟨⟨⟨hi0, hiA⟩, hB0, hroom, hbytes⟩, hr⟩ := need_some h
 simp only [Option.some.injEq] at hr
 obtain ⟨i, rfl⟩ : ∃ k : Nat, i = (k : Int) := ⟨i.toNat, by omega⟩
 rw [Int.toNat_natCast] at hr
 have hiA : i ≤ A.length := by omega
 have uni : ∀ L : List α, Uni K (L.map e) := by
  intro L x hx
  obtain ⟨a, _, rfl⟩ := List.mem_map.1 hx
  refine ⟨(he a).1, fun c hc => ?_⟩
  have := (he a).2 c hc
  cases c <;> simp_all [V.scalar, V.one]
 have sca : ∀ L : List α, ∀ c ∈ (L.map e).flatMap V.cells, V.scalar c = true := by
  intro L c hc
  obtain ⟨x, hx, hcx⟩ := List.mem_flatMap.1 hc
  obtain ⟨a, _, rfl⟩ := List.mem_map.1 hx
  exact (he a).2 c hcx
 have flen : ∀ L : List α, ((L.map e).flatMap V.cells).length = L.length * K := fun L => by rw [(uni L).flat_length, List.length_map]
 intro w D S x vs hD hS hx hargs
 cases hargs with
 | cons h1 hr1 _ _ _ =>
  cases h1
  cases hr1 with
  | cons h2 hr2 _ _ _ =>
   cases hr2
   generalize hLB : B.map e = LB at h2
   have hmB : LB.length = B.length := by rw [← hLB, List.length_map]
   cases h2 with
   | nil => simp at hmB; omega
   | slro hDv hbv huv hrv hcv hmv =>
    rename_i vb voff vc vsB
    obtain ⟨cA, tA, fA, hA, hinA⟩ := hbv
    subst hLB
    have hvl : vsB.length = B.length * K := by rw [← hrv.length, flen]
    have h1v : ∀ v ∈ vsB, v.oneCell' = true := hrv.ones (uni B).flat_one
    have hvs : ∀ j v, vsB[j]? = some v → w.cell? ⟨vb, voff + j, none⟩ = some v := fun j v hj => by simp [World.cell?, hA, hinA j v hj]
    have hm0 : 0 < B.length * K := Nat.mul_pos hB0 hK
    have hcA0 : cA.size ≠ 0 := by
     obtain ⟨v, hv⟩ : ∃ v, vsB[0]? = some v := ⟨vsB[0], List.getElem?_eq_getElem (by omega)⟩
     have := hinA 0 v hv
     intro e0
     rw [Array.getElem?_eq_none (by omega)] at this; cases this
    have hrlen : (r.map e).length = A.length + B.length := by
     rw [← hr]; simp; omega
    -- what the new row holds
    have us_of : ∀ {w0 : World} {D0 : BSet} {o0 : Bool} {us : List Value} {T : BSet}, Reps w0 D0 o0 ((A.map e).flatMap V.cells) us T → Reps w Emp false ((r.map e).flatMap V.cells) (us.take (i * K) ++ vsB ++ us.drop (i * K)) Emp := by
     intro w0 D0 o0 us T hus
     have e1 : (r.map e).flatMap V.cells = (((A.map e).flatMap V.cells).take (i * K) ++ (B.map e).flatMap V.cells) ++ ((A.map e).flatMap V.cells).drop (i * K) := by
      rw [← hr, ← mul_take_blk (uni A), ← mul_drop_blk (uni A)]
      simp [List.map_take, List.map_drop]
     have q0 := (scalars_any (D' := Emp) (o' := false) hus (sca A)).keep (w' := w) (D' := Emp) (fun _ h => h.elim) (fun h => by cases h)
     have q1 := scalars_any (D' := Emp) (o' := false) hrv (sca B)
     rw [e1]
     exact ((q0.take (i * K)).append q1 (fun _ h => h.elim) (fun _ h => h) (fun _ h => h)).append (q0.drop (i * K)) (fun _ h => h.elim) (fun _ h => h) (fun _ h => h)
    rw [List.length_map]
    -- the new row in a block of its own
    have fin_new : ∀ {w2 : World} {ARR : Array Value} {c' : Nat} {w0 : World} {D0 : BSet} {o0 : Bool} {us : List Value} {T : BSet}, Reps w0 D0 o0 ((A.map e).flatMap V.cells) us T → w2.os = w.os → w2.tape = w.tape → w2.output = w.output → w2.heap.size = w.heap.size + 1 → (∀ k : Nat, k < w.heap.size → w2.heap[k]? = w.heap[k]?) →
      w2.heap[w.heap.size]? = some (.cells ARR te (0, 0)) → (∀ (j : Nat) u, (us.take (i * K) ++ vsB ++ us.drop (i * K))[j]? = some u → ARR[0 + j]? = some u) → A.length + B.length ≤ c' → c' ≤ maxLen → 0 + c' * K ≤ ARR.size →
      PostX w D S x (.r true K (r.map e)) (.returned (.slice (some ⟨w.heap.size, 0, none⟩) (A.length + B.length) c')) w2 := by
     intro w2 ARR c' w0 D0 o0 us T hus g1 g2 g3 g4 g5 g6 g7 g8 g9 g10
     have hrow := row_of (w := w2) (D := D) (K := K) (us_of hus) (sca r) (uni r) g6 g7 (by rw [hrlen]; exact g8) g9 g10
     rw [hrlen] at hrow
     refine ⟨_, fun q => q = w.heap.size, D, rfl, .one (.one hrow), ?_, fun _ h => h, fun q hq => ⟨?_, .inl hq⟩, new_stays g1 g2 g3 g4 g5⟩
     ·rintro q rfl
      exact ⟨.inr (Nat.le_refl _), by omega, fun hd => absurd (hD.lt _ hd) (Nat.lt_irrefl _)⟩
     ·have := hD.lt q hq; omega
    generalize hLA : A.map e = LA at hx
    have hnA : LA.length = A.length := by rw [← hLA, List.length_map]
    have hmax : A.length + B.length ≤ maxLen := by unfold maxLen; omega
    -- at the end, without room
    have at_end : ∀ (base : Option Addr) (c : Nat) {w0 : World} {D0 : BSet} {o0 : Bool} {us : List Value} {T : BSet}, Reps w0 D0 o0 ((A.map e).flatMap V.cells) us T → i = A.length → A.length ≤ c → c < A.length + B.length → (base = none → A.length = 0) → (∀ a, base = some a → ∀ j v, us[j]? = some v → w.cell? (a.add j) = some v) → x = .slice base A.length c →
      Calls P f #[x, .int .i64 i, .slice (some ⟨vb, voff, none⟩) B.length vc] w (PostX w D S x (.r true K (r.map e))) := by
     intro base c w0 D0 o0 us T hus hin hnc hcr hnil hcs hxx
     have hul : us.length = A.length * K := by rw [← hus.length, flen]
     rw [hxx, hin]
     refine (R.endg base A.length c vb voff B.length vc us vsB w hB0 hnc hcr hbytes hul hvl hnil hcs hvs h1v).mono ?_
     rintro q w' ⟨rfl, rfl⟩
     rw [← hxx]
     have hg1 := grownCap_ge w (A.length + B.length) c te
     have hg2 := grownCap_le_maxLen w (A.length + B.length) c te hmax
     generalize grownCap w (A.length + B.length) c te = G at hg1 hg2
     refine fin_new (ARR := (us ++ vsB).toArray ++ Builtin.zeroCells z (G - (A.length + B.length))) hus rfl rfl rfl (by show (w.heap.push _).size = _; rw [Array.size_push]) (fun k hk => ?_) ?_ ?_ hg1 hg2 ?_
     ·simp only [World.alloc, World.drew]
      rw [Array.getElem?_push_lt hk, Array.getElem?_eq_getElem hk]
     ·show (w.heap.push _)[w.heap.size]? = _
      rw [Array.getElem?_push_size]
     ·intro j u hj
      rw [hin, List.take_of_length_le (by omega), List.drop_eq_nil_of_le (by omega), List.append_nil] at hj
      have hlt := (List.getElem?_eq_some_iff.1 hj).1
      rw [Nat.zero_add, Array.getElem?_append_left (by simpa using hlt)]
      simpa using hj
     ·have e1 : (A.length + B.length) * K = A.length * K + B.length * K := Nat.add_mul ..
      have e2 : (A.length + B.length) * K + (G - (A.length + B.length)) * K = G * K := by rw [← Nat.add_mul]; congr 1; omega
      simp only [Array.size_append, size_zeroCells, hz, List.size_toArray, List.length_append]
      omega
    cases hx with
    | nil =>
     rename_i ad
     have hA0 : A = [] := by simpa using hLA
     have hl0 : A.length = 0 := by rw [hA0]; rfl
     refine at_end ad 0 (us := []) (w0 := w) (D0 := Emp) (o0 := false) (T := Emp) (by rw [hA0]; exact .nil) (by omega) (by omega) (by omega) (fun _ => hl0) (fun a _ j v hj => by simp at hj) (by rw [hl0])
    | row hSg hT hgT hbk hu hrr hlc hm hz2 =>
     rename_i g o c us T
     subst hLA
     obtain ⟨cur, ty, hcur, hfit0⟩ := hz2
     obtain ⟨cur2, ty2, hcur2, hinc⟩ := hbk
     rw [hcur] at hcur2
     cases hcur2
     rw [hnA] at hlc
     have hul : us.length = A.length * K := by rw [← hrr.length, flen]
     have h1u : ∀ v ∈ us, v.oneCell' = true := hrr.ones (uni A).flat_one
     have hus : ∀ j v, us[j]? = some v → w.cell? ⟨g, o + j, none⟩ = some v := fun j v hj => by simp [World.cell?, hcur, hinc j v hj]
     have hgw : g < w.heap.size := (hS g hSg).1
     have hne : vb ≠ g := fun e0 => (hS g hSg).2 (e0 ▸ hDv)
     have fin_new2 := @fin_new
     rw [hnA] at fin_new2 ⊢
     have e1 : (A.length + B.length) * K = A.length * K + B.length * K := Nat.add_mul ..
     have e2 : (i + B.length) * K = i * K + B.length * K := Nat.add_mul ..
     have e3 : i * K ≤ A.length * K := Nat.mul_le_mul_right _ hiA
     by_cases hroom2 : A.length + B.length ≤ c
     ·-- in place
      have hfit : o + c * K ≤ cur.size := hfit0 (by omega)
      have e4 : (A.length + B.length) * K ≤ c * K := Nat.mul_le_mul_right _ hroom2
      have hfz : ∀ j, w.frozen? ⟨g, j, none⟩ = false := fun j => by simp [World.frozen?, hcur]
      have hcell : ∀ j, j < (A.length + B.length) * K → (w.cell? ⟨g, o + j, none⟩).isSome = true := fun j hj => by
       simp only [World.cell?, hcur]
       rw [Array.getElem?_eq_getElem (by omega)]; rfl
      have hc63 : c ≤ 9223372036854775807 := by unfold maxLen at hm; omega
      have fin_in : ∀ {w2 : World} {cur' : Array Value}, w2.os = w.os → w2.tape = w.tape → w2.output = w.output → w2.heap.size = w.heap.size → (∀ k : Nat, k ≠ g → w2.heap[k]? = w.heap[k]?) → w2.heap[g]? = some (.cells cur' ty (0, 0)) → cur'.size = cur.size → (∀ (j : Nat) u, (us.take (i * K) ++ vsB ++ us.drop (i * K))[j]? = some u → cur'[o + j]? = some u) →
        PostX w D S (.slice (some ⟨g, o, none⟩) A.length c) (.r true K (r.map e)) (.returned (.slice (some ⟨g, o, none⟩) (A.length + B.length) c)) w2 := by
       intro w2 cur' g1 g2 g3 g4 g5 g6 g7 g8
       have hrow := row_of (w := w2) (D := D) (K := K) (us_of hrr) (sca r) (uni r) g6 g8 (by rw [hrlen]; exact hroom2) hm (by rw [g7]; exact hfit)
       rw [hrlen] at hrow
       refine ⟨_, fun q => q = g, D, rfl, .one (.one hrow), ?_, fun _ h => h, fun q hq => ⟨?_, .inl hq⟩, set_stays (w1 := w) hSg hgw ⟨rfl, rfl, rfl, rfl⟩ hcur g1 g2 g3 g4 g5 g6 g7⟩
       ·rintro q rfl
        exact ⟨.inl hSg, by omega, (hS q hSg).2⟩
       ·have := hD.lt q hq; omega
      by_cases hin : i = A.length
      ·have e5 : i * K = A.length * K := by rw [hin]
       rw [hin]
       refine (R.room g o A.length c vb voff B.length vc vsB w hB0 hroom2 hc63 hvl (fun j hj => by rw [Nat.add_assoc]; exact hcell _ (by omega)) hfz hvs h1v).mono ?_
       rintro q w' ⟨rfl, rfl⟩
       obtain ⟨cur', s⟩ := setCells_at vsB (o + A.length * K) w cur hcur
       refine fin_in s.os s.tape s.output s.size s.oth s.at_ s.csz ?_
       intro j u hj
       rw [List.take_of_length_le (by omega), List.drop_eq_nil_of_le (by omega), List.append_nil] at hj
       rcases list_get_append hj with hj | ⟨hl, hj⟩
       ·have := (List.getElem?_eq_some_iff.1 hj).1
        rw [s.out _ (.inl (by omega))]; exact hinc j u hj
       ·have hlt := (List.getElem?_eq_some_iff.1 hj).1
        have := s.inn (j - us.length) u hj (by omega)
        rw [show o + j = o + A.length * K + (j - us.length) by omega]; exact this
      ·refine (R.shift g o A.length c i vb voff B.length vc us vsB w (by omega) hB0 hroom2 hc63 hne hul hvl hus hcell hfz hvs h1u h1v cA cur tA ty fA hA hcA0 hcur (by omega)).mono ?_
       rintro q w' ⟨rfl, rfl⟩
       have hcurd : w.drew.heap[g]? = some (.cells cur ty (0, 0)) := hcur
       obtain ⟨cur1, s1⟩ := setCells_at (us.drop (i * K)) (o + (i + B.length) * K) w.drew cur hcurd
       obtain ⟨cur', s⟩ := setCells_at vsB (o + i * K) _ cur1 s1.at_
       have c1 := s1.csz
       refine fin_in (s.os.trans s1.os) (s.tape.trans s1.tape) (s.output.trans s1.output) (s.size.trans s1.size) (fun k hk => (s.oth k hk).trans (s1.oth k hk)) s.at_ (s.csz.trans s1.csz) ?_
       intro j u hj
       have ht : (us.take (i * K)).length = i * K := by rw [List.length_take]; omega
       have hd : (us.drop (i * K)).length = A.length * K - i * K := by rw [List.length_drop, hul]
       rcases list_get_append hj with hj | ⟨hl, hj⟩
       ·rcases list_get_append hj with hj | ⟨hl, hj⟩
        ·have hlt := (List.getElem?_eq_some_iff.1 hj).1
         rw [s.out _ (.inl (by omega)), s1.out _ (.inl (by omega))]
         rw [List.getElem?_take] at hj
         split at hj
         ·exact hinc j u hj
         ·cases hj
        ·have hlt := (List.getElem?_eq_some_iff.1 hj).1
         have := s.inn (j - (us.take (i * K)).length) u hj (by omega)
         rw [show o + j = o + i * K + (j - (us.take (i * K)).length) by omega]; exact this
       ·have hlt := (List.getElem?_eq_some_iff.1 hj).1
        rw [List.length_append] at hl hlt hj
        have := s1.inn (j - ((us.take (i * K)).length + vsB.length)) u hj (by omega)
        rw [s.out _ (.inr (by omega)), show o + j = o + (i + B.length) * K + (j - ((us.take (i * K)).length + vsB.length)) by omega]; exact this
     ·by_cases hin : i = A.length
      ·have q := at_end (some ⟨g, o, none⟩) c hrr hin hlc (by omega) (fun h => by cases h) (fun a ha j v hj => by cases ha; rw [Addr.add_lit]; exact hus j v hj) (by rw [hnA])
       rw [hnA] at q
       exact q
      ·refine (R.grow g o A.length c i vb voff B.length vc us vsB w (by omega) hB0 hlc (by omega) hbytes hul hvl hus hvs h1u h1v).mono ?_
       rintro q w' ⟨rfl, rfl⟩
       have hg1 := grownCap_ge w (A.length + B.length) c te
       have hg2 := grownCap_le_maxLen w (A.length + B.length) c te hmax
       generalize grownCap w (A.length + B.length) c te = G at hg1 hg2
       generalize hROW : (us.take (i * K)).toArray ++ Builtin.zeroCells z (A.length + B.length - i) ++ Builtin.zeroCells z (G - (A.length + B.length)) = ROW
       have ht : (us.take (i * K)).length = i * K := by rw [List.length_take]; omega
       have hd : (us.drop (i * K)).length = A.length * K - i * K := by rw [List.length_drop, hul]
       have e5 : i * K + (A.length + B.length - i) * K = (A.length + B.length) * K := by rw [← Nat.add_mul]; congr 1; omega
       have e6 : (A.length + B.length) * K + (G - (A.length + B.length)) * K = G * K := by rw [← Nat.add_mul]; congr 1; omega
       have hsz : ROW.size = G * K := by
        rw [← hROW]
        simp only [Array.size_append, size_zeroCells, hz, List.size_toArray, ht]
        omega
       have e7 : (A.length + B.length) * K ≤ G * K := Nat.mul_le_mul_right _ hg1
       have hat : ((w.alloc (.cells ROW te)).drew).heap[w.heap.size]? = some (.cells ROW te (0, 0)) := by show (w.heap.push _)[w.heap.size]? = _; rw [Array.getElem?_push_size]
       have hold : ∀ k : Nat, k < w.heap.size → ((w.alloc (.cells ROW te)).drew).heap[k]? = w.heap[k]? := fun k hk => by
        simp only [World.alloc, World.drew]
        rw [Array.getElem?_push_lt hk, Array.getElem?_eq_getElem hk]
       obtain ⟨cur1, s1⟩ := setCells_at vsB (i * K) _ ROW hat
       obtain ⟨cur', s⟩ := setCells_at (us.drop (i * K)) ((i + B.length) * K) (((w.alloc (.cells ROW te)).drew.setCells w.heap.size (i * K) vsB).drew) cur1 s1.at_
       have c1 := s1.csz
       have c2 := s.csz
       refine fin_new2 (ARR := cur') hrr (s.os.trans s1.os) (s.tape.trans s1.tape) (s.output.trans s1.output) ((s.size.trans s1.size).trans (by show (w.heap.push _).size = _; rw [Array.size_push])) (fun k hk => ((s.oth k (by omega)).trans (s1.oth k (by omega))).trans (hold k hk)) s.at_ ?_ hg1 hg2 (by omega)
       intro j u hj
       rw [Nat.zero_add]
       rcases list_get_append hj with hj | ⟨hl, hj⟩
       ·rcases list_get_append hj with hj | ⟨hl, hj⟩
        ·have hlt := (List.getElem?_eq_some_iff.1 hj).1
         rw [s.out _ (.inl (by omega)), s1.out _ (.inl (by omega)), ← hROW, Array.append_assoc, Array.getElem?_append_left (by simpa using hlt)]
         simpa using hj
        ·have hlt := (List.getElem?_eq_some_iff.1 hj).1
         have := s1.inn (j - (us.take (i * K)).length) u hj (by omega)
         rw [s.out _ (.inl (by omega)), show j = i * K + (j - (us.take (i * K)).length) by omega]; exact this
       ·have hlt := (List.getElem?_eq_some_iff.1 hj).1
        rw [List.length_append] at hl hlt hj
        have := s.inn (j - ((us.take (i * K)).length + vsB.length)) u hj (by omega)
        rw [show j = (i + B.length) * K + (j - ((us.take (i * K)).length + vsB.length)) by omega]; exact this
end
end Go.Ab
