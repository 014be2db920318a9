import Derived.Test.YtpnmhfbiaajaeaaGreatDoorB2
set_option linter.unusedVariables false
set_option linter.unusedSimpArgs false
namespace Go.Ab
open Go.RowKit
def PostX (w : World) (D S : BSet) (x : Value) (res : RV) (e : Ending) (w' : World) : Prop :=
 ∃ v S' D', e = .returned v ∧ RvRep w' D' res v S' ∧ (∀ g, S' g → (S g ∨ w.heap.size ≤ g) ∧ g < w'.heap.size ∧ ¬ D' g) ∧ (∀ g, D g → D' g) ∧ (∀ g, D' g → g < w'.heap.size ∧ (D g ∨ S g ∨ w.heap.size ≤ g)) ∧ Stays ⟨w, S, x⟩ w'
def ConX (P : Program) (f : FuncId) (own : Bool) (sz : Nat) (L : List V) (ro : List V) (res : RV) : Prop :=
 ∀ (w : World) (D S : BSet) (x : Value) (vs : List Value), DOk w D → (∀ g, S g → g < w.heap.size ∧ ¬ D g) → R1Rep w D (.row own sz L) x S → Reps w D false ro vs Emp → Calls P f (x :: vs).toArray w (PostX w D S x res)
def Env.stx (E : Env) (o2 : Objs) (w' : World) (D' : BSet) : Env := { E with w := w', D := D', objs := o2 }
section
variable {P : Program} {N : Fr} {w0 : Base} {D0 : BSet} {E : Env} {st : St} {a : Act} {w : World}
theorem stx_ok (hg : Good w0 D0 E) {o2 : Objs} (hd : Dies E.objs o2) {w' : World} {S D' : BSet} {x : Value} (hst : Stays ⟨E.w, S, x⟩ w') (hS : ∀ g, S g → Gone E o2 g) (h1 : ∀ g, E.D g → D' g)
  (h2 : ∀ g, D' g → g < w'.heap.size ∧ (E.D g ∨ Gone E o2 g ∨ E.w.heap.size ≤ g)) : E.Le (E.stx o2 w' D') ∧ Good w0 D0 (E.stx o2 w' D') := by
 have hD : ∀ g, E.D g → w'.heap[g]? = E.w.heap[g]? := fun g hgD => hst.block g (hg.dIn g hgD).1 (fun hs => by
  obtain ⟨r, hl, _, ho⟩ := hS g hs
  exact (hg.ownIn r hl g ho).2.2 hgD)
 have hO : ∀ r, live (o2 r) = true → ∀ g, E.own r g → w'.heap[g]? = E.w.heap[g]? := by
  intro r hl g ho
  have hl' := (hd.live hl).2
  refine hst.block g (hg.ownIn r hl' g ho).2.1 (fun hs => ?_)
  obtain ⟨r', hl2, hdd, ho'⟩ := hS g hs
  by_cases er : r = r'
  ·subst er; rw [hdd] at hl; cases hl
  ·exact hg.apart r r' er hl' hl2 g ho ho'
 have hle : E.Le (E.stx o2 w' D') := by
  refine ⟨fun g hgD => ⟨h1 g hgD, hD g hgD⟩, ?_, ?_⟩
  ·intro r hr hn
   have hn : o2 r = none := hn
   rcases hd r with e | ⟨e, _⟩
   ·exact hr (e ▸ hn)
   ·rw [e] at hn; cases hn
  ·intro r hr o' ho' hnd
   have ho' : o2 r = some o' := ho'
   have hl : live (o2 r) = true := by rw [ho']; cases o' <;> first | rfl | exact absurd rfl hnd
   obtain ⟨e, l'⟩ := hd.live hl
   exact ⟨o', by rw [← e]; exact ho', rfl, fun g hg' => ⟨.inl hg', hO r hl g (.inl hg')⟩, by cases o' <;> simp_all, fun g q hq cur e' hc => ⟨cur, e', (hO r hl g (.inr ⟨q, hq⟩)).trans hc, rfl⟩⟩
 refine ⟨hle, ⟨hg.below.trans hst (fun g hs => ?_), ?_, fun g h => h1 g (hg.d0 g h), ?_, ?_, ?_, ?_, hg.tabs.keep hle.d⟩⟩
 ·obtain ⟨r, hl, _, ho⟩ := hS g hs
  exact (hg.ownIn r hl g ho).1
 ·intro g hgD
  obtain ⟨q1, q2⟩ := h2 g hgD
  refine ⟨q1, ?_⟩
  rcases q2 with q2 | ⟨r, hl, _, ho⟩ | q2
  ·exact (hg.dIn g q2).2
  ·exact .inr (hg.ownIn r hl g ho).1
  ·exact .inr (.inl (Nat.le_trans hg.below.size q2))
 ·intro r o ho
  have ho : o2 r = some o := ho
  by_cases hdead : o = .dead
  ·subst hdead; trivial
  ·have hl : live (o2 r) = true := by rw [ho]; cases o <;> first | rfl | exact absurd rfl hdead
   have := hd.live hl
   exact RootRep.le hle (hg.roots r o (by rw [← this.1]; exact ho)) rfl rfl (fun g hg' => hO r hl g hg')
 ·intro r hl g ho
  have hl : live (o2 r) = true := hl
  obtain ⟨e, l⟩ := hd.live hl
  obtain ⟨q1, q2, q3⟩ := hg.ownIn r l g ho
  refine ⟨q1, Nat.lt_of_lt_of_le q2 hst.size, fun hdD => ?_⟩
  rcases (h2 g hdD).2 with h | ⟨r', hl', hdead, ho'⟩ | h
  ·exact q3 h
  ·by_cases er : r = r'
   ·subst er; rw [hdead] at hl; cases hl
   ·exact hg.apart r r' er l hl' g ho ho'
  ·omega
 ·intro r hl g q hq
  exact hg.ownS r (hd.live hl).2 g q hq
 ·intro r r' hne hl hl' g ho
  exact hg.apart r r' hne (hd.live hl).2 (hd.live hl').2 g ho
theorem slice_row (hE : SimE N w0 D0 E st a w) {r off len : Nat} {x : Value} (h : AvRep E (.sl r off len) x) {own : Bool} {sz : Nat} {L : List V} (ho : st.objs r = some (.row own sz L)) : R1Rep w E.D (.row own sz ((L.drop off).take len)) x (E.own r) := by
 have ew := hE.ew
 have ho' : E.objs r = some (.row own sz L) := by rw [hE.eo]; exact ho
 obtain ⟨ad, c, vs, rfl, hlc, hm, hvl, hrv, hu, hle, hpl⟩ := part_cells hE.good h ho'
 have hlen : ((L.drop off).take len).length = len := by simp; omega
 have hlv : live (E.objs r) = true := live_row ho'
 rcases hpl with ⟨rfl, rfl⟩ | ⟨g, o, cur, e, hl, rfl, hh, hs, hcells⟩
 ·have hl0 : len = 0 := by omega
  subst hl0
  simpa using R1Rep.nil (w := w) (D := E.D)
 ·have := R1Rep.row (w := w) (D := E.D) (own := own) (sz := sz) (L := (L.drop off).take len) (g := g) (o := o + off * sz) (c := c) (vs := vs) (S := E.own r) (T := E.S r)
   (.inr ⟨o, hl⟩) (fun q hq => .inl hq) (hE.good.ownS r hlv g o hl) (by rw [← ew]; exact ⟨cur, e, hh, hcells⟩) hu (by rw [← ew]; exact hrv)
   (by rw [hlen]; exact hlc) hm ⟨cur, e, by rw [← ew]; exact hh, fun _ => by rw [Nat.add_mul] at hs; omega⟩
  rw [hlen] at this
  exact this
theorem dies_dead {o : Objs} {r : Nat} (h : live (o r) = true) : Dies o (upd o r (some .dead)) := by
 intro q
 by_cases e : q = r
 ·subst e; exact .inr ⟨upd_same _ _ _, h⟩
 ·exact .inl (upd_ne e)
def deadS (st : St) (r : Nat) : St := { st with objs := upd st.objs r (some .dead), lk := none }
theorem sim_dead (hE : SimE N w0 D0 E st a w) {r : Nat} (hl : live (st.objs r) = true) : ∃ E2, E2 = E.stx (upd E.objs r (some .dead)) E.w E.D ∧ E.Le E2 ∧ SimE N w0 D0 E2 (deadS st r) a w := by
 have hl' : live (E.objs r) = true := by rw [hE.eo]; exact hl
 obtain ⟨le, g⟩ := stx_ok hE.good (dies_dead hl') (w' := E.w) (S := Emp) (D' := E.D) (x := w0.x) (Stays.refl ⟨E.w, Emp, w0.x⟩) (fun _ h => h.elim) (fun _ h => h) (fun g h => ⟨(hE.good.dIn g h).1, .inl h⟩)
 exact ⟨_, rfl, le, g, hE.ew, by show upd E.objs r _ = upd st.objs r _; rw [hE.eo], hE.size, hE.defers, fun t => (hE.tmps t).le le, hE.fix, fun _ _ _ _ h => by cases h⟩
theorem does_callX (hE : SimE N w0 D0 E st a w) {f : FuncId} {r off len : Nat} {own : Bool} {sz : Nat} {L : List V} {x : Value} {ro : List V} {res : RV} {vs : List Value} {ln : Bool} (hx : AvRep E (.sl r off len) x) (ho : st.objs r = some (.row own sz L))
  (hc : ConX P f own sz ((L.drop off).take len) ro res) (hargs : Reps w (Lent (E.stx (upd E.objs r (some .dead)) E.w E.D) ln) false ro vs Emp) (hfit : res.fits = true) (hcl : ln = true → res.clean = true)
  {id : Nat} (hf : ∀ k, k < 64 → st.objs (id + k) = none) {o : Oper} (hrun : (execOp a.eval o).run P w = .ok (.enter f (x :: vs).toArray) w) :
  Does P w0 D0 E a o (plV id (upd st.objs r (some .dead)) res).1 (plV id (upd st.objs r (some .dead)) res).2 := by
 intro K Q hk
 have ew := hE.ew
 have eo := hE.eo
 have hg := hE.good
 have ho' : E.objs r = some (.row own sz L) := by rw [eo]; exact ho
 have hlr : live (E.objs r) = true := live_row ho'
 have hd : Dies E.objs (upd E.objs r (some .dead)) := dies_dead hlr
 have hgone : ∀ g, E.own r g → Gone E (upd E.objs r (some .dead)) g := fun g h => ⟨r, hlr, upd_same _ _ _, h⟩
 have hgone' : ∀ g, Gone E (upd E.objs r (some .dead)) g → E.own r g := by
  rintro g ⟨q, h1, h2, h3⟩
  by_cases e : q = r
  ·subst e; exact h3
  ·rw [upd_ne e] at h2; rw [h2] at h1; cases h1
 unfold Oper.wp
 rw [ew, hrun, Oper.upon_enter]
 have hLd : ∀ g, Lent (E.stx (upd E.objs r (some .dead)) E.w E.D) ln g → g < w.heap.size ∧ ¬ E.own r g := by
  rintro g (h | ⟨_, q, hl, hq⟩)
  ·refine ⟨by rw [← ew]; exact (hg.dIn g h).1, fun hr => (hg.ownIn r hlr g hr).2.2 h⟩
  ·obtain ⟨e1, l1⟩ := hd.live hl
   have hne : q ≠ r := by rintro rfl; rw [show (E.stx (upd E.objs q (some .dead)) E.w E.D).objs q = some .dead from upd_same _ _ _] at hl; cases hl
   exact ⟨by rw [← ew]; exact (hg.ownIn q l1 g hq).2.1, fun hr => hg.apart q r hne l1 hlr g hq hr⟩
 have hSl : ∀ g, E.own r g → g < w.heap.size ∧ ¬ Lent (E.stx (upd E.objs r (some .dead)) E.w E.D) ln g := fun g h => ⟨by rw [← ew]; exact (hg.ownIn r hlr g h).2.1, fun hl => (hLd g hl).2 h⟩
 have hrow := (slice_row hE hx ho).keepD (D' := Lent (E.stx (upd E.objs r (some .dead)) E.w E.D) ln) (fun g h => .inl h)
 refine (hc w _ (E.own r) x vs ⟨fun g h => (hLd g h).1, (by rw [← ew]; exact hg.tabs.mono (fun g h => .inl h))⟩ hSl hrow hargs).mono ?_
 rintro e w' ⟨v, S', D', rfl, hv, hS, hD1, hD2, hst⟩
 have key : ∀ D'' : BSet, (∀ g, E.D g → D'' g) → (∀ g, D'' g → g < w'.heap.size ∧ (E.D g ∨ E.own r g ∨ E.w.heap.size ≤ g)) → (∀ g, S' g → ¬ D'' g) → RvRep w' D'' res v S' → K (a.put o.dst v) w' := by
  intro D'' h1 h2 h3 h4
  obtain ⟨le1, g1⟩ := stx_ok hg hd (by rw [ew]; exact hst) (fun g h => hgone g h) h1 (fun g h => ⟨(h2 g h).1, (h2 g h).2.imp (fun h => h) (fun h => h.imp (fun h => hgone g h) (fun h => h))⟩)
  have hsp : Spare w0 (E.stx (upd E.objs r (some .dead)) w' D'') S' := by
   intro g hgS
   obtain ⟨q1, q2, _⟩ := hS g hgS
   refine ⟨⟨?_, fun q hl hq => ?_⟩, q2, h3 g hgS⟩
   ·rcases q1 with q1 | q1
    ·exact (hg.ownIn r hlr g q1).1
    ·exact .inl (Nat.le_trans hg.below.size (by rw [ew]; exact q1))
   ·obtain ⟨e1, l1⟩ := hd.live hl
    have hq : E.own q g := hq
    have hne : q ≠ r := by rintro rfl; rw [show (E.stx (upd E.objs q (some .dead)) w' D'').objs q = some .dead from upd_same _ _ _] at hl; cases hl
    rcases q1 with q1 | q1
    ·exact hg.apart q r hne l1 hlr g hq q1
    ·have := (hg.ownIn q l1 g hq).2.1
     rw [ew] at this
     omega
  have hfr : ∀ k, k < 64 → upd E.objs r (some .dead) (id + k) = none := by
   intro k hk
   have h0 := hf k hk
   rw [← eo] at h0
   rw [upd_ne (fun e => by rw [e, ho'] at h0; cases h0)]
   exact h0
  obtain ⟨E2, le2, g2, hw2, ho2, hr2⟩ := plV_rep (E := E.stx (upd E.objs r (some .dead)) w' D'') g1 (id := id) hfit (fun k hk => hfr k hk) h4 hsp
  have e1 : (E.stx (upd E.objs r (some .dead)) w' D'').objs = upd st.objs r (some .dead) := by show upd E.objs r _ = _; rw [eo]
  rw [e1] at ho2 hr2
  have := hk E2 v (le1.trans le2) g2 ho2 hr2
  rw [hw2] at this
  exact this
 cases ln with
 | true =>
  refine key E.D (fun g h => h) (fun g h => ⟨Nat.lt_of_lt_of_le (by have := (hg.dIn g h).1; rw [ew] at this; exact this) hst.size, .inl h⟩) ?_ (hv.cleanD (hcl rfl))
  intro g hgS hgD
  exact (hS g hgS).2.2 (hD1 g (.inl hgD))
 | false =>
  refine key D' (fun g h => hD1 g (.inl h)) ?_ (fun g h => (hS g h).2.2) hv
  intro g hgD
  obtain ⟨q1, q2⟩ := hD2 g hgD
  refine ⟨q1, ?_⟩
  rcases q2 with (q2 | ⟨h, _⟩) | q2 | q2
  ·exact .inl q2
  ·cases h
  ·exact .inr (.inl q2)
  ·exact .inr (.inr (by rw [ew]; exact q2))
end
end Go.Ab
