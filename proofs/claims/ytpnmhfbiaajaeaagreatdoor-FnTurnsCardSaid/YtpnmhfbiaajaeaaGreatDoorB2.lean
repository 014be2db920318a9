import Derived.Test.YtpnmhfbiaajaeaaGreatDoorB1
set_option linter.unusedVariables false
set_option linter.unusedSimpArgs false
namespace Go.Ab
open Go.RowKit
def scrO (l : List Nat) (o : Objs) : Objs := fun q => (o q).map (scrR l)
section
variable {P : Program} {N : Fr} {w0 : Base} {D0 : BSet} {E : Env} {st : St} {a : Act} {w : World}
def DoesM (P : Program) (w0 : Base) (D0 : BSet) (E : Env) (a : Act) (o : Oper) (l : List Nat) (av : AV) (ob : Objs) : Prop :=
 ∀ (K : Act → World → Prop) (Q : Exit → Act → World → Prop),
  (∀ (E' : Env) (v : Value), E.LeX l E' → Good w0 D0 E' → E'.objs = ob → AvRep E' av v → K (a.put o.dst v) E'.w) → o.wp P a E.w K Q
theorem hand2 (hE : SimE N w0 D0 E st a w) (base : Objs) {c : AV} {x : Value} {r : R2} {l : List Nat} (h : AvRep E c x) (ht : takeM st c = some (r, l)) (hn : l.Nodup) :
  ∃ M : Nat → Prop, (∀ q, M q → q ∈ l) ∧ (∀ q, M q → live (E.objs q) = true) ∧ R2Rep w E.D r x (E.ownsM M) ∧
   ∀ (w' : World) (r' : R2) (S' : BSet), like2 r r' → R2Rep w' E.D r' x S' →
    ∃ Sf : Nat → BSet, (∀ q, M q → ∃ sz L L' g o vs, E.objs q = some (.row true sz L) ∧ newO2 base c r' q = some (.row true sz L') ∧ L'.length = L.length ∧ E.loc q = some (g, o) ∧ BlkO w' g o vs ∧ Uni sz L' ∧ Reps w' E.D true (L'.flatMap V.cells) vs (Sf q) ∧ ¬ Sf q g ∧ S' g ∧ ∀ p, Sf q p → S' p) ∧
     (∀ q q', M q → M q' → q ≠ q' → ∀ g, Sf q g → ¬ Sf q' g ∧ ∀ o, E.loc q' ≠ some (g, o)) ∧
     (∀ q, ¬ M q → newO2 base c r' q = base q ∨ ∃ sz, E.objs q = some (.row true sz []) ∧ newO2 base c r' q = some (.row true sz [])) := by
 have one : ∀ {r1 : R1} {l1 : List Nat}, takeM1 st c = some (r1, l1) → l1.Nodup → _ := fun {r1 l1} h1 hn1 =>
  hand hE base (cs := [c]) (xs := [x]) (rs := [r1]) (l := l1) (.cons h .nil) (by simp [takeML, h1]) hn1
 unfold takeM at ht
 split at ht
 ·rename_i cs
  split at ht
  ·rename_i rs ls h1
   simp only [Option.some.injEq, Prod.mk.injEq] at ht
   obtain ⟨rfl, rfl⟩ := ht
   cases h with
   | agg k1 h =>
    obtain ⟨M, m1, m2, m3, m4⟩ := hand hE base h h1 hn
    refine ⟨M, m1, m2, .agg k1 m3, ?_⟩
    intro w' r' S' hl hr
    cases r' with
    | one r' => exact hl.elim
    | agg rs' =>
     generalize hx : Value.agg _ = xx at hr
     cases hr with
     | agg k2 hr =>
      simp only [Value.agg.injEq] at hx
      have hx : _ = _ := congrArg Array.toList hx
      simp only [List.toList_toArray] at hx
      subst hx
      exact m4 w' rs' S' hl hr
  ·cases ht
 ·split at ht
  ·rename_i r1 l1 h1
   simp only [Option.some.injEq, Prod.mk.injEq] at ht
   obtain ⟨rfl, rfl⟩ := ht
   obtain ⟨M, m1, m2, m3, m4⟩ := one h1 hn
   refine ⟨M, m1, m2, ?_, ?_⟩
   ·cases m3 with
    | cons q1 q2 _ s1 _ => 
     refine .one ?_
     cases q1 with
     | val h => exact .val h
     | nil => exact .nil
     | row hS hT hg' hb hu h' hc hm hz => exact .row (s1 _ hS) (fun q hq => s1 q (hT q hq)) hg' hb hu h' hc hm hz
   ·intro w' r' S' hl hr
    cases r' with
    | agg rs' => exact hl.elim
    | one r' =>
     cases hr with
     | one hr => exact m4 w' [r'] S' ⟨hl, trivial⟩ (.cons hr .nil (S2 := Emp) (fun _ _ h => h) (fun _ h => h) (fun _ h => h.elim))
  ·cases ht
theorem does_callM (hE : SimE N w0 D0 E st a w) {f : FuncId} {c : AV} {x : Value} {r r' : R2} {l : List Nat} {ro : List V} {rv : V} {vs : List Value} (hc : ConM P f r r' ro rv) (hx : AvRep E c x) (ht : takeM st c = some (r, l)) (hn : l.Nodup) (hlk : like2 r r') (hp : rv.plain = true)
  (hargs : Reps w E.D false ro vs Emp) {o : Oper} (hrun : (execOp a.eval o).run P w = .ok (.enter f (x :: vs).toArray) w) :
  DoesM P w0 D0 E a o l (yav rv) (newO2 (scrO l st.objs) c r') := by
 intro K Q hk
 have ew := hE.ew
 have eo := hE.eo
 have hg := hE.good
 obtain ⟨M, m1, m2, m3, m4⟩ := hand2 hE (scrO l st.objs) hx ht hn
 unfold Oper.wp
 rw [ew, hrun, Oper.upon_enter]
 have hDl : ∀ g, E.D g → g < w.heap.size := fun g h => by rw [← ew]; exact (hg.dIn g h).1
 have hSl : ∀ g, E.ownsM M g → g < w.heap.size ∧ ¬ E.D g := by
  rintro g ⟨q, hq, ho⟩
  obtain ⟨_, q2, q3⟩ := hg.ownIn q (m2 q hq) g ho
  exact ⟨by rw [← ew]; exact q2, q3⟩
 refine (hc w E.D (E.ownsM M) x vs ⟨hDl, (by rw [← ew]; exact hg.tabs)⟩ hSl m3 hargs).mono ?_
 rintro e w' ⟨y, S', rfl, hy, hr', hS', hst⟩
 obtain ⟨Sf, k1, k2, k3⟩ := m4 w' r' S' hlk hr'
 have hmod : ModOk E l w' M Sf (newO2 (scrO l st.objs) c r') x := by
  refine ⟨by rw [ew]; exact hst, fun q hq => List.contains_iff_mem.2 (m1 q hq), ?_, ?_, k2, ?_⟩
  ·intro q hq
   obtain ⟨sz, L, L', g, o, vs, b1, b2, b3, b4, b5, b6, b7, b8, _, _⟩ := k1 q hq
   exact ⟨sz, L, L', g, o, vs, b1, b2, b3, b4, b5, b6, b7, b8⟩
  ·intro q hq g hgS
   obtain ⟨_, _, _, _, _, _, _, _, _, _, _, _, _, _, _, b10⟩ := k1 q hq
   obtain ⟨q1, q2, q3⟩ := hS' g (b10 g hgS)
   exact ⟨q1.imp (fun h => h) (fun h => by rw [ew]; exact h), q2, q3⟩
  ·intro q hq
   rcases k3 q hq with h | ⟨sz, h1, h2⟩
   ·rw [h, scrO, eo]
   ·rw [h2, h1]; rfl
 exact hk _ y (mod_lex hg hmod) (mod_good hg hmod) rfl (yav_rep hy)
theorem does_callL (hE : SimE N w0 D0 E st a w) {f : FuncId} {rr i f0 sz z : Nat} {L T T' : List V} {e0 : V} {x : Value} {ro : List V} {rv : V} {vs : List Value} (hlnk : Link E rr i f0 x) (hobj : st.objs rr = some (.row true sz L)) (hi : L[i]? = some e0) (hf0 : e0.cells[f0]? = some (.sl z T))
  (hc : ConM P f (.one (.row true z T)) (.one (.row true z T')) ro rv) (hlen : T'.length = T.length) (hp : rv.plain = true)
  (hargs : Reps w E.D false ro vs Emp) {o : Oper} (hrun : (execOp a.eval o).run P w = .ok (.enter f (x :: vs).toArray) w) :
  DoesM P w0 D0 E a o [rr] (yav rv) (upd (scrO [rr] st.objs) rr (some (.row true sz (L.set i (patch e0 f0 [.sl z T']))))) := by
 intro K Q hk
 have ew := hE.ew
 have eo := hE.eo
 have hg := hE.good
 have ho : E.objs rr = some (.row true sz L) := by rw [eo]; exact hobj
 obtain ⟨sz2, L2, e2, z2, T2, g, q, cur, ty, l1, l2, l3, l4, l5, l6⟩ := hlnk
 rw [ho] at l1
 simp only [Option.some.injEq, Root.row.injEq, true_and] at l1
 obtain ⟨rfl, rfl⟩ := l1
 rw [hi] at l2
 simp only [Option.some.injEq] at l2; subst l2
 have hlr : live (E.objs rr) = true := live_row ho
 have hroot := hg.roots rr _ ho
 simp only [RootRep, l4] at hroot
 obtain ⟨us, hb, hU, hR⟩ := hroot
 obtain ⟨hce, hones⟩ := hU e0 (List.mem_of_getElem? hi)
 have hf0l : f0 < e0.cells.length := (List.getElem?_eq_some_iff.1 hf0).1
 -- its place among all cells
 obtain ⟨ws, _, wl, wat⟩ := flat_at hU hR hi
 have hflat : (L.flatMap V.cells).drop (i * sz + f0) = .sl z T :: (L.flatMap V.cells).drop (i * sz + f0 + 1) := by
  have hset := flat_set hU hi (e' := e0) (f := f0) (us := [.sl z T]) (by rw [← hce]; simp only [List.length_cons, List.length_nil]; omega) (by
   have : e0.cells.drop f0 = .sl z T :: e0.cells.drop (f0 + 1) := by
    rw [List.drop_eq_getElem_cons hf0l, (List.getElem?_eq_some_iff.1 hf0).2]
   simp only [List.length_cons, List.length_nil]
   rw [List.append_assoc, List.singleton_append, ← this, List.take_append_drop])
  have hsame : L.set i e0 = L := by
   apply List.ext_getElem?
   intro n
   by_cases hn : n = i
   ·subst hn; rw [List.getElem?_set_self (List.getElem?_eq_some_iff.1 hi).1, hi]
   ·rw [List.getElem?_set_ne (fun h => hn h.symm)]
  rw [hsame] at hset
  have hlk : i * sz + f0 ≤ (L.flatMap V.cells).length := by
   rw [hU.flat_length]
   have : (i + 1) * sz ≤ L.length * sz := Nat.mul_le_mul_right _ (List.getElem?_eq_some_iff.1 hi).1
   rw [Nat.succ_mul] at this
   omega
  have h2 : ((L.flatMap V.cells).take (i * sz + f0)).length = i * sz + f0 := by rw [List.length_take]; omega
  conv => lhs; rw [hset]
  rw [List.append_assoc, List.drop_left' h2]
  rfl
 have hR2 := hR
 rw [← List.take_append_drop (i * sz + f0) (L.flatMap V.cells), hflat] at hR2
 obtain ⟨x1, x2, Sa, Sr, hxx, r1, r2, rd, ra, rb⟩ := Reps.split hR2
 have hx1 : x1.length = i * sz + f0 := by
  rw [← r1.length, List.length_take]
  have : (i + 1) * sz ≤ L.length * sz := Nat.mul_le_mul_right _ (List.getElem?_eq_some_iff.1 hi).1
  rw [Nat.succ_mul] at this
  rw [hU.flat_length]
  omega
 cases r2 with
 | cons q1 q2 qd qa qb =>
  rename_i Sx Sb y ys
  -- the value that is handed over is the one that lies there
  have hyx : y = x := by
   obtain ⟨cur', e', b1, b2⟩ := hb
   rw [l5] at b1
   simp only [Option.some.injEq, Obj.cells.injEq, and_true] at b1
   obtain ⟨rfl, rfl⟩ := b1
   have : us[i * sz + f0]? = some y := by rw [hxx, List.getElem?_append_right (by omega), hx1]; simp
   have h3 := b2 _ y this
   rw [← Nat.add_assoc] at h3
   rw [h3] at l6
   exact Option.some.inj l6
  subst hyx
  have hrow : R1Rep w E.D (.row true z T) y Sx := by
   rw [ew] at q1
   cases q1 with
   | nil => exact .nil
   | slow hS hT hgT hb hu h hc hm hz => exact .row hS hT hgT hb hu h hc hm hz
  have hSS : ∀ p, Sx p → E.S rr p := fun p hp => rb p (qa p hp)
  have hgS := hg.ownS rr hlr g q l4
  unfold Oper.wp
  rw [ew, hrun, Oper.upon_enter]
  have hDl : ∀ p, E.D p → p < w.heap.size := fun p h => by rw [← ew]; exact (hg.dIn p h).1
  have hSl : ∀ p, Sx p → p < w.heap.size ∧ ¬ E.D p := by
   intro p hp
   obtain ⟨_, h2, h3⟩ := hg.ownIn rr hlr p (.inl (hSS p hp))
   exact ⟨by rw [← ew]; exact h2, h3⟩
  refine (hc w E.D Sx y vs ⟨hDl, (by rw [← ew]; exact hg.tabs)⟩ hSl (.one hrow) hargs).mono ?_
  rintro e w' ⟨yv, S', rfl, hy, hr', hS', hst⟩
  have hnew : Rep w' E.D true (.sl z T') y S' := by
   cases hr' with
   | one hr' =>
    cases hr' with
    | nil => exact .nil _
    | row hS hT hgT hb hu h hc hm hz => exact .slow hS hT hgT hb hu h hc hm hz
  have kb : ∀ p, p < E.w.heap.size → ¬ Sx p → w'.heap[p]? = E.w.heap[p]? := by rw [ew]; exact hst.block
  have S'new : ∀ p, S' p → Sx p ∨ E.w.heap.size ≤ p := fun p hp => by rw [ew]; exact (hS' p hp).1
  have lt : ∀ p, E.S rr p → p < E.w.heap.size := fun p hp => (hg.ownIn rr hlr p (.inl hp)).2.1
  have hpc : (patch e0 f0 [.sl z T']).cells = e0.cells.take f0 ++ [.sl z T'] ++ e0.cells.drop (f0 + 1) := by
   have := patch_cells (e := e0) (f := f0) (us := [.sl z T']) (by simp only [List.length_cons, List.length_nil]; omega) (by simp [V.one]) (by simp)
   simpa using this
  have hflat' : (L.set i (patch e0 f0 [.sl z T'])).flatMap V.cells = (L.flatMap V.cells).take (i * sz + f0) ++ (.sl z T' :: (L.flatMap V.cells).drop (i * sz + f0 + 1)) := by
   have := flat_set hU hi (e' := patch e0 f0 [.sl z T']) (f := f0) (us := [.sl z T']) (by rw [← hce]; simp only [List.length_cons, List.length_nil]; omega) (by simpa using hpc)
   rw [this]
   simp
  have hmod : ModOk E [rr] w' (fun p => p = rr) (fun _ p => Sa p ∨ S' p ∨ Sb p) (upd (scrO [rr] st.objs) rr (some (.row true sz (L.set i (patch e0 f0 [.sl z T']))))) y := by
   refine ⟨?_, fun p hp => by simp [hp], ?_, ?_, ?_, ?_⟩
   ·rw [ew]
    exact ⟨hst.os, hst.tape, hst.output, hst.size, fun p hp hn => hst.block p hp (fun hx => hn ⟨rr, rfl, .inl (hSS p hx)⟩), hst.held⟩
   ·rintro p rfl
    refine ⟨sz, L, _, g, q, us, ho, upd_same _ _ _, by simp, l4, hb.keep (kb g (hg.ownIn p hlr g (.inr ⟨q, l4⟩)).2.1 (fun h => hgS (hSS g h))), hU.set ?_ ?_, ?_, ?_⟩
    ·rw [hpc]; simp; omega
    ·rw [hpc]
     intro c hc
     rcases List.mem_append.1 hc with hc | hc
     ·rcases List.mem_append.1 hc with hc | hc
      ·exact hones c (List.mem_of_mem_take hc)
      ·rw [List.mem_singleton.1 hc]; rfl
     ·exact hones c (List.mem_of_mem_drop hc)
    ·rw [hflat', hxx]
     have kd : ∀ t, E.D t → E.D t ∧ w'.heap[t]? = E.w.heap[t]? := fun t ht => ⟨ht, kb t (hg.dIn t ht).1 (fun h => (hSl t h).2 ht)⟩
     refine Reps.append (S1 := Sa) (S2 := fun t => S' t ∨ Sb t) (r1.keep kd (fun _ t ht => kb t (lt t (ra t ht)) (fun h => rd t ht (qa t h)))) (.cons hnew (q2.keep kd (fun _ t ht => kb t (lt t (rb t (qb t ht))) (fun h => qd t h ht))) ?_ (fun t h => .inl h) (fun t h => .inr h)) ?_ (fun t h => .inl h) (fun t h => .inr h)
     ·intro t h1 h2
      rcases S'new t h1 with h | h
      ·exact qd t h h2
      ·have := lt t (rb t (qb t h2)); omega
     ·rintro t h1 (h2 | h2)
      ·rcases S'new t h2 with h | h
       ·exact rd t h1 (qa t h)
       ·have := lt t (ra t h1); omega
      ·exact rd t h1 (qb t h2)
    ·rintro (h | h | h)
     ·exact hgS (ra g h)
     ·rcases S'new g h with h | h
      ·exact hgS (hSS g h)
      ·have := (hg.ownIn p hlr g (.inr ⟨q, l4⟩)).2.1; omega
     ·exact hgS (rb g (qb g h))
   ·rintro p rfl t ht
    have old : E.S p t → (E.ownsM (fun x => x = p) t ∨ E.w.heap.size ≤ t) ∧ t < w'.heap.size ∧ ¬ E.D t := fun h => by
     obtain ⟨_, h2, h3⟩ := hg.ownIn p hlr t (.inl h)
     exact ⟨.inl ⟨p, rfl, .inl h⟩, Nat.lt_of_lt_of_le h2 (by rw [ew]; exact hst.size), h3⟩
    rcases ht with h | h | h
    ·exact old (ra t h)
    ·obtain ⟨h1, h2, h3⟩ := hS' t h
     refine ⟨?_, h2, h3⟩
     rcases h1 with h1 | h1
     ·exact .inl ⟨p, rfl, .inl (hSS t h1)⟩
     ·exact .inr (by rw [ew]; exact h1)
    ·exact old (rb t (qb t h))
   ·rintro p p' rfl rfl hne; exact absurd rfl hne
   ·intro p hp
    rw [upd_ne hp, scrO, eo]
  exact hk _ yv (mod_lex hg hmod) (mod_good hg hmod) rfl (yav_rep hy)
end
end Go.Ab
