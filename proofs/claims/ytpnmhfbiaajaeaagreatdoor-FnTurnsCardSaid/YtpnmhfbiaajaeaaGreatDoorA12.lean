import Derived.Test.YtpnmhfbiaajaeaaGreatDoorA11
set_option linter.unusedVariables false
set_option linter.unusedSimpArgs false
namespace Go.Ab
open Go.RowKit
theorem pl1_other {id q : Nat} {o : Objs} {r : R1} (h : q ≠ id) : (pl1 id o r).2 q = o q := by
 cases r with
 | val => rfl
 | row => exact upd_ne h
theorem pl1L_other : ∀ {rs : List R1} {id q : Nat} {o : Objs}, (q < id ∨ id + rs.length ≤ q) → (pl1L id o rs).2 q = o q
 | [], _, _, _, _ => rfl
 | r :: rs, id, q, o, h => by
  simp only [List.length_cons] at h
  simp only [pl1L]
  rw [pl1L_other (by omega), pl1_other (by omega)]
theorem pl2_otherN {n id q : Nat} {o : Objs} {r : R2} (hn : 0 < n) (hf : r.wide n = true) (h : q < id ∨ id + n ≤ q) : (pl2 id o r).2 q = o q := by
 cases r with
 | one r => exact pl1_other (by omega)
 | agg rs =>
  simp only [R2.wide, decide_eq_true_eq] at hf
  simp only [pl2]
  exact pl1L_other (by omega)
theorem pl2_other {id q : Nat} {o : Objs} {r : R2} (hf : r.fits = true) (h : q < id ∨ id + 16 ≤ q) : (pl2 id o r).2 q = o q := pl2_otherN (by omega) hf h
theorem pl2L_other : ∀ {rs : List R2} {id q : Nat} {o : Objs}, (∀ r ∈ rs, R2.fits r = true) → (q < id ∨ id + 16 * rs.length ≤ q) → (pl2L id o rs).2 q = o q
 | [], _, _, _, _, _ => rfl
 | r :: rs, id, q, o, hf, h => by
  simp only [List.length_cons] at h
  simp only [pl2L]
  rw [pl2L_other (fun r hr => hf r (by simp [hr])) (by omega), pl2_other (hf r (by simp)) (by omega)]
theorem plV_other {id q : Nat} {o : Objs} {r : RV} (hf : r.fits = true) (h : q < id ∨ id + 64 ≤ q) : (plV id o r).2 q = o q := by
 cases r with
 | one r => exact pl2_otherN (n := 64) (by omega) hf (by omega)
 | tup rs =>
  simp only [RV.fits, Bool.and_eq_true, decide_eq_true_eq, List.all_eq_true] at hf
  simp only [plV]
  exact pl2L_other hf.2 (by omega)
section
variable {P : Program} {N : Fr} {w0 : Base} {D0 : BSet} {E : Env} {st : St} {a : Act} {w : World}
theorem R1Rep.keepD {D D' : BSet} {r : R1} {x : Value} {S : BSet} (h : R1Rep w D r x S) (hD : ∀ g, D g → D' g) : R1Rep w D' r x S := by
 cases h with
 | val h => exact .val (h.keep (fun g hg => ⟨hD g hg, rfl⟩) (fun h => by cases h))
 | nil => exact .nil
 | row hS hT hg hb hu h hc hm hz => exact .row hS hT hg hb hu (h.keep (fun g hg => ⟨hD g hg, rfl⟩) (fun _ _ _ => rfl)) hc hm hz
theorem pl1L_rep : ∀ {rs : List R1} {xs : List Value} {E : Env} (hg : Good w0 D0 E) {id : Nat} (hf : ∀ k, k < rs.length → E.objs (id + k) = none) {S : BSet} (h : R1Reps E.w E.D rs xs S) (hS : Spare w0 E S),
  ∃ E', E.Le E' ∧ Good w0 D0 E' ∧ E'.w = E.w ∧ E'.D = E.D ∧ E'.objs = (pl1L id E.objs rs).2 ∧ AvReps E' (pl1L id E.objs rs).1 xs ∧ (∀ T : BSet, (∀ q, S q → ¬ T q) → Spare w0 E T → Spare w0 E' T)
 | [], xs, E, hg, id, hf, S, h, hS => by
  cases h
  exact ⟨E, Env.Le.refl E, hg, rfl, rfl, rfl, .nil, fun T _ h => h⟩
 | r :: rs, _, E, hg, id, hf, S, .cons (S1 := S1) (S2 := S2) h hs hd h1 h2, hS => by
  obtain ⟨E1, le1, g1, w1, d1, o1, r1, k1⟩ := pl1_rep hg (hf 0 (by simp)) h (fun q hq => hS q (h1 q hq))
  have hf1 : ∀ k, k < rs.length → E1.objs (id + 1 + k) = none := by
   intro k hk
   rw [o1, Nat.add_zero, pl1_other (by omega)]
   have := hf (k + 1) (by simp; omega)
   rw [show id + 1 + k = id + (k + 1) by omega]
   exact this
  obtain ⟨E2, le2, g2, w2, d2, o2, r2, k2⟩ := pl1L_rep (E := E1) g1 hf1 (by rw [w1, d1]; exact hs) (k1 S2 hd (fun q hq => hS q (h2 q hq)))
  rw [o1, Nat.add_zero] at o2 r2
  rw [Nat.add_zero] at r1
  refine ⟨E2, le1.trans le2, g2, w2.trans w1, d2.trans d1, o2, .cons (r1.le le2) r2, ?_⟩
  intro T hT hsp
  exact k2 T (fun q hq => hT q (h2 q hq)) (k1 T (fun q hq => hT q (h1 q hq)) hsp)
theorem pl2_repN {n : Nat} (hn : 0 < n) (hg : Good w0 D0 E) {id : Nat} {r : R2} (hfit : r.wide n = true) (hf : ∀ k, k < n → E.objs (id + k) = none) {x : Value} {S : BSet} (h : R2Rep E.w E.D r x S) (hS : Spare w0 E S) :
  ∃ E', E.Le E' ∧ Good w0 D0 E' ∧ E'.w = E.w ∧ E'.D = E.D ∧ E'.objs = (pl2 id E.objs r).2 ∧ AvRep E' (pl2 id E.objs r).1 x ∧ (∀ T : BSet, (∀ q, S q → ¬ T q) → Spare w0 E T → Spare w0 E' T) := by
 cases h with
 | one h => exact pl1_rep hg (hf 0 (by omega)) h hS
 | agg h1 h =>
  rename_i rs xs
  simp only [R2.wide, decide_eq_true_eq] at hfit
  obtain ⟨E', le, g, hw, hd, ho, hr, hk⟩ := pl1L_rep hg (fun k hk => hf k (by omega)) h hS
  exact ⟨E', le, g, hw, hd, ho, .agg h1 hr, hk⟩
theorem pl2_rep (hg : Good w0 D0 E) {id : Nat} {r : R2} (hfit : r.fits = true) (hf : ∀ k, k < 16 → E.objs (id + k) = none) {x : Value} {S : BSet} (h : R2Rep E.w E.D r x S) (hS : Spare w0 E S) :
  ∃ E', E.Le E' ∧ Good w0 D0 E' ∧ E'.w = E.w ∧ E'.D = E.D ∧ E'.objs = (pl2 id E.objs r).2 ∧ AvRep E' (pl2 id E.objs r).1 x ∧ (∀ T : BSet, (∀ q, S q → ¬ T q) → Spare w0 E T → Spare w0 E' T) := pl2_repN (by omega) hg hfit hf h hS
theorem pl2L_rep : ∀ {rs : List R2} {xs : List Value} {E : Env} (hg : Good w0 D0 E) {id : Nat} (hfit : ∀ r ∈ rs, R2.fits r = true) (hf : ∀ k, k < 16 * rs.length → E.objs (id + k) = none) {S : BSet} (h : R2Reps E.w E.D rs xs S) (hS : Spare w0 E S),
  ∃ E', E.Le E' ∧ Good w0 D0 E' ∧ E'.w = E.w ∧ E'.D = E.D ∧ E'.objs = (pl2L id E.objs rs).2 ∧ AvReps E' (pl2L id E.objs rs).1 xs ∧ (∀ T : BSet, (∀ q, S q → ¬ T q) → Spare w0 E T → Spare w0 E' T)
 | [], xs, E, hg, id, hfit, hf, S, h, hS => by
  cases h
  exact ⟨E, Env.Le.refl E, hg, rfl, rfl, rfl, .nil, fun T _ h => h⟩
 | r :: rs, _, E, hg, id, hfit, hf, S, .cons (S1 := S1) (S2 := S2) h hs hd h1 h2, hS => by
  simp only [List.length_cons] at hf
  obtain ⟨E1, le1, g1, w1, d1, o1, r1, k1⟩ := pl2_rep hg (hfit r (by simp)) (fun k hk => hf k (by omega)) h (fun q hq => hS q (h1 q hq))
  have hf1 : ∀ k, k < 16 * rs.length → E1.objs (id + 16 + k) = none := by
   intro k hk
   rw [o1, pl2_other (hfit r (by simp)) (by omega)]
   rw [show id + 16 + k = id + (k + 16) by omega]
   exact hf (k + 16) (by omega)
  obtain ⟨E2, le2, g2, w2, d2, o2, r2, k2⟩ := pl2L_rep (E := E1) g1 (fun r hr => hfit r (by simp [hr])) hf1 (by rw [w1, d1]; exact hs) (k1 S2 hd (fun q hq => hS q (h2 q hq)))
  rw [o1] at o2 r2
  refine ⟨E2, le1.trans le2, g2, w2.trans w1, d2.trans d1, o2, .cons (r1.le le2) r2, ?_⟩
  intro T hT hsp
  exact k2 T (fun q hq => hT q (h2 q hq)) (k1 T (fun q hq => hT q (h1 q hq)) hsp)
theorem plV_rep (hg : Good w0 D0 E) {id : Nat} {r : RV} (hfit : r.fits = true) (hf : ∀ k, k < 64 → E.objs (id + k) = none) {x : Value} {S : BSet} (h : RvRep E.w E.D r x S) (hS : Spare w0 E S) :
  ∃ E', E.Le E' ∧ Good w0 D0 E' ∧ E'.w = E.w ∧ E'.objs = (plV id E.objs r).2 ∧ AvRep E' (plV id E.objs r).1 x := by
 cases h with
 | one h =>
  obtain ⟨E', le, g, hw, hd, ho, hr, _⟩ := pl2_repN (n := 64) (by omega) hg hfit (fun k hk => hf k (by omega)) h hS
  exact ⟨E', le, g, hw, ho, hr⟩
 | tup h =>
  rename_i rs xs
  simp only [RV.fits, Bool.and_eq_true, decide_eq_true_eq, List.all_eq_true] at hfit
  obtain ⟨E', le, g, hw, hd, ho, hr, _⟩ := pl2L_rep hg hfit.2 (fun k hk => hf k (by omega)) h hS
  exact ⟨E', le, g, hw, ho, .tup hr⟩
mutual
theorem Rep.ownD {D D' : BSet} : ∀ {o : Bool} {v : V} {x : Value} {S : BSet}, Rep w D o v x S → o = true → Rep w D' o v x S
 | _, _, _, _, .int k n, _ => .int k n
 | _, _, _, _, .bool b, _ => .bool b
 | _, _, _, _, .str s, _ => .str s
 | _, _, _, _, .agg h1 h, ho => .agg h1 (Reps.ownD h ho)
 | _, _, _, _, .nil sz, _ => .nil sz
 | _, _, _, _, .slro _ _ _ _ _ _, ho => by cases ho
 | _, _, _, _, .slow hS hT hg hb hu h hc hm hz, ho => .slow hS hT hg hb hu (Reps.ownD h ho) hc hm hz
 | _, _, _, _, .ptr _ _ _ _, ho => by cases ho
 | _, _, _, _, .fn _, ho => by cases ho
theorem Reps.ownD {D D' : BSet} : ∀ {o : Bool} {v : List V} {x : List Value} {S : BSet}, Reps w D o v x S → o = true → Reps w D' o v x S
 | _, _, _, _, .nil, _ => .nil
 | _, _, _, _, .cons h1 h2 hd hs1 hs2, ho => .cons (Rep.ownD h1 ho) (Reps.ownD h2 ho) hd hs1 hs2
end
theorem R1Rep.cleanD {D D' : BSet} {r : R1} {x : Value} {S : BSet} (h : R1Rep w D r x S) (hc : r.clean = true) : R1Rep w D' r x S := by
 cases h with
 | val h => exact .val (plain_any h hc)
 | nil => exact .nil
 | row hS hT hg hb hu h hc' hm hz =>
  rename_i own sz L g o c vs T
  cases own with
  | true => exact .row hS hT hg hb hu (h.ownD rfl) hc' hm hz
  | false =>
   simp only [R1.clean, Bool.false_or, List.all_eq_true] at hc
   refine .row (T := Emp) hS (fun _ h => h.elim) (fun h => h.elim) hb hu ?_ hc' hm hz
   refine scalars_any h ?_
   intro c' hc2
   obtain ⟨y, hy, hcy⟩ := List.mem_flatMap.1 hc2
   have := hc y hy
   cases y <;> simp_all [V.plain, V.cells, V.scalar]
theorem R1Reps.cleanD {D D' : BSet} : ∀ {rs : List R1} {xs : List Value} {S : BSet}, R1Reps w D rs xs S → (∀ r ∈ rs, R1.clean r = true) → R1Reps w D' rs xs S
 | _, _, _, .nil, _ => .nil
 | _, _, _, .cons h hs hd h1 h2, hc => .cons (h.cleanD (hc _ (by simp))) (R1Reps.cleanD hs (fun r hr => hc r (by simp [hr]))) hd h1 h2
theorem R2Rep.cleanD {D D' : BSet} {r : R2} {x : Value} {S : BSet} (h : R2Rep w D r x S) (hc : r.clean = true) : R2Rep w D' r x S := by
 cases h with
 | one h => exact .one (h.cleanD hc)
 | agg h1 h => exact .agg h1 (h.cleanD (by simpa [R2.clean, List.all_eq_true] using hc))
theorem R2Reps.cleanD {D D' : BSet} : ∀ {rs : List R2} {xs : List Value} {S : BSet}, R2Reps w D rs xs S → (∀ r ∈ rs, R2.clean r = true) → R2Reps w D' rs xs S
 | _, _, _, .nil, _ => .nil
 | _, _, _, .cons h hs hd h1 h2, hc => .cons (h.cleanD (hc _ (by simp))) (R2Reps.cleanD hs (fun r hr => hc r (by simp [hr]))) hd h1 h2
theorem RvRep.cleanD {D D' : BSet} {r : RV} {x : Value} {S : BSet} (h : RvRep w D r x S) (hc : r.clean = true) : RvRep w D' r x S := by
 cases h with
 | one h => exact .one (h.cleanD hc)
 | tup h => exact .tup (h.cleanD (by simpa [RV.clean, List.all_eq_true] using hc))
def okFn (P : Program) (f : FuncId) : Bool := match P.funcs[f]? with
 | some fn => !(fn.name == "runtime.NumGoroutine") && fn.body.isSome
 | none => false
theorem callFunc_run {f : FuncId} (h : okFn P f = true) (args : Array Value) : (callFunc f args).run P w = .ok (.enter f args) w := by
 unfold okFn at h
 split at h
 ·rename_i fn hf
  simp only [Bool.and_eq_true, Bool.not_eq_true'] at h
  have hn : ¬ fn.name = "runtime.NumGoroutine" := by simpa using h.1
  have hb : ¬ fn.body = none := by
   intro hq
   rw [hq] at h
   simp at h
  simp [callFunc, hf, hn, hb]
 ·cases h
def Does (P : Program) (w0 : Base) (D0 : BSet) (E : Env) (a : Act) (o : Oper) (av : AV) (ob : Objs) : Prop :=
 ∀ (K : Act → World → Prop) (Q : Exit → Act → World → Prop),
  (∀ (E' : Env) (v : Value), E.Le E' → Good w0 D0 E' → E'.objs = ob → AvRep E' av v → K (a.put o.dst v) E'.w) → o.wp P a E.w K Q
theorem does_of_yld (hg : Good w0 D0 E) {o : Oper} {av : AV} (h : Yld P E a E.w o av) : Does P w0 D0 E a o av E.objs := by
 intro K Q hk
 obtain ⟨v, hr, hv⟩ := h
 unfold Oper.wp
 rw [hr]
 exact hk E v (Env.Le.refl E) hg rfl hv
theorem does_of_out {o : Oper} {av : AV} {ob : Objs} (h : Out P w0 D0 E a E.w o av ob) : Does P w0 D0 E a o av ob := by
 intro K Q hk
 obtain ⟨w', E', le, g, rfl, ho, h⟩ := h
 unfold Oper.wp
 rcases h with ⟨v, hr, hv⟩ | ⟨hr, rfl⟩
 ·rw [hr]; exact hk E' v le g ho hv
 ·rw [hr]; exact hk E' undef le g ho (by simpa [undef] using AvRep.tup (E := E') AvReps.nil)
theorem does_call (hE : SimE N w0 D0 E st a w) {f : FuncId} {res : RV} {vs : List Value} {Vs : List V} {ln : Bool} (hc : Con P f Vs res) (hargs : Reps w (Lent E ln) false Vs vs Emp) (hfit : res.fits = true) (hcl : ln = true → res.clean = true)
  {id : Nat} (hf : ∀ k, k < 64 → st.objs (id + k) = none) {o : Oper} (hrun : (execOp a.eval o).run P w = .ok (.enter f vs.toArray) w) :
  Does P w0 D0 E a o (plV id st.objs res).1 (plV id st.objs res).2 := by
 intro K Q hk
 have ew := hE.ew
 have eo := hE.eo
 have hg := hE.good
 unfold Oper.wp
 rw [ew, hrun, Oper.upon_enter]
 have hLd : ∀ g, Lent E ln g → g < w.heap.size := by
  rintro g (h | ⟨_, r, hl, ho⟩)
  ·rw [← ew]; exact (hg.dIn g h).1
  ·rw [← ew]; exact (hg.ownIn r hl g ho).2.1
 refine (hc w (Lent E ln) vs ⟨hLd, (by rw [← ew]; exact hg.tabs.mono (fun g h => .inl h))⟩ hargs).mono ?_
 rintro e w' ⟨v, S, D', rfl, hv, hS, hD1, hD2, hb⟩
 -- the frame's read-only memory behind the call
 have key : ∀ D'' : BSet, (∀ g, E.D g → D'' g) → (∀ g, D'' g → g < w'.heap.size ∧ (E.D g ∨ E.w.heap.size ≤ g)) → (∀ g, S g → ¬ D'' g) → RvRep w' D'' res v S → K (a.put o.dst v) w' := by
  intro D'' h1 h2 h3 h4
  obtain ⟨le1, g1⟩ := stp_ok hg (by rw [ew]; exact hb) h1 h2
  have hsp : Spare w0 (E.stp w' D'') S := by
   intro g hgS
   obtain ⟨q1, q2, _⟩ := hS g hgS
   refine ⟨⟨.inl (Nat.le_trans hg.below.size (by rw [ew]; exact q1)), fun r hl ho => ?_⟩, q2, h3 g hgS⟩
   have := (hg.ownIn r hl g ho).2.1
   rw [ew] at this
   omega
  obtain ⟨E2, le2, g2, hw2, ho2, hr2⟩ := plV_rep (E := E.stp w' D'') g1 (id := id) hfit (fun k hk => by show E.objs (id + k) = none; rw [eo]; exact hf k hk) h4 hsp
  have e1 : (E.stp w' D'').objs = st.objs := eo
  rw [e1] at ho2 hr2
  have := hk E2 v (le1.trans le2) g2 ho2 hr2
  rw [hw2] at this
  exact this
 cases ln with
 | true =>
  refine key E.D (fun g h => h) (fun g h => ⟨Nat.lt_of_lt_of_le (by have := (hg.dIn g h).1; rw [ew] at this; exact this) hb.size, .inl h⟩) ?_ (hv.cleanD (hcl rfl))
  intro g hgS hgD
  have := (hS g hgS).1
  have h2 := (hg.dIn g hgD).1
  rw [ew] at h2
  omega
 | false =>
  refine key D' (fun g h => hD1 g (.inl h)) ?_ (fun g h => (hS g h).2.2) hv
  intro g hgD
  obtain ⟨q1, q2⟩ := hD2 g hgD
  refine ⟨q1, ?_⟩
  rcases q2 with (q2 | ⟨h, _⟩) | q2
  ·exact .inl q2
  ·cases h
  ·exact .inr (by rw [ew]; exact q2)
end
end Go.Ab
