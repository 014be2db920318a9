import Derived.Test.YtpnmhfbiaajaeaaGreatDoorA10
set_option linter.unusedVariables false
set_option linter.unusedSimpArgs false
namespace Go.Ab
open Go.RowKit
inductive R1 where
 | val (v : V)
 | row (own : Bool) (sz : Nat) (L : List V)
inductive R2 where
 | one (r : R1)
 | agg (rs : List R1)
inductive RV where
 | one (r : R2)
 | tup (rs : List R2)
abbrev RV.v (x : V) : RV := .one (.one (.val x))
abbrev RV.r (own : Bool) (sz : Nat) (L : List V) : RV := .one (.one (.row own sz L))
abbrev R2.v (x : V) : R2 := .one (.val x)
abbrev R2.r (own : Bool) (sz : Nat) (L : List V) : R2 := .one (.row own sz L)
def R1.clean : R1 → Bool
 | .val v => v.plain
 | .row own _ L => own || L.all V.plain
def R2.clean : R2 → Bool
 | .one r => r.clean
 | .agg rs => rs.all R1.clean
def RV.clean : RV → Bool
 | .one r => r.clean
 | .tup rs => rs.all R2.clean
inductive R1Rep (w : World) (D : BSet) : R1 → Value → BSet → Prop
 | val {v : V} {x : Value} {S : BSet} (h : Rep w D false v x Emp) : R1Rep w D (.val v) x S
 | nil {own : Bool} {sz : Nat} {ad : Option Addr} {S : BSet} : R1Rep w D (.row own sz []) (.slice ad 0 0) S
 | row {own : Bool} {sz : Nat} {L : List V} {g o c : Nat} {vs : List Value} {S T : BSet} (hS : S g) (hT : ∀ q, T q → S q) (hg : ¬ T g) (hb : BlkO w g o vs) (hu : Uni sz L) (h : Reps w D own (L.flatMap V.cells) vs T)
   (hc : L.length ≤ c) (hm : c ≤ maxLen) (hz : ∃ cur e, w.heap[g]? = some (.cells cur e (0, 0)) ∧ (c ≠ 0 → o + c * sz ≤ cur.size)) : R1Rep w D (.row own sz L) (.slice (some ⟨g, o, none⟩) L.length c) S
inductive R1Reps (w : World) (D : BSet) : List R1 → List Value → BSet → Prop
 | nil {S} : R1Reps w D [] [] S
 | cons {r : R1} {x : Value} {rs : List R1} {xs : List Value} {S S1 S2 : BSet} (h : R1Rep w D r x S1) (hs : R1Reps w D rs xs S2) (hd : ∀ q, S1 q → ¬ S2 q) (h1 : ∀ q, S1 q → S q) (h2 : ∀ q, S2 q → S q) : R1Reps w D (r :: rs) (x :: xs) S
inductive R2Rep (w : World) (D : BSet) : R2 → Value → BSet → Prop
 | one {r : R1} {x : Value} {S : BSet} (h : R1Rep w D r x S) : R2Rep w D (.one r) x S
 | agg {rs : List R1} {xs : List Value} {S : BSet} (h1 : ∀ x ∈ xs, x.oneCell' = true) (h : R1Reps w D rs xs S) : R2Rep w D (.agg rs) (.agg xs.toArray) S
inductive R2Reps (w : World) (D : BSet) : List R2 → List Value → BSet → Prop
 | nil {S} : R2Reps w D [] [] S
 | cons {r : R2} {x : Value} {rs : List R2} {xs : List Value} {S S1 S2 : BSet} (h : R2Rep w D r x S1) (hs : R2Reps w D rs xs S2) (hd : ∀ q, S1 q → ¬ S2 q) (h1 : ∀ q, S1 q → S q) (h2 : ∀ q, S2 q → S q) : R2Reps w D (r :: rs) (x :: xs) S
inductive RvRep (w : World) (D : BSet) : RV → Value → BSet → Prop
 | one {r : R2} {x : Value} {S : BSet} (h : R2Rep w D r x S) : RvRep w D (.one r) x S
 | tup {rs : List R2} {xs : List Value} {S : BSet} (h : R2Reps w D rs xs S) : RvRep w D (.tup rs) (.tuple xs.toArray) S
def Post (w : World) (D : BSet) (res : RV) (e : Ending) (w' : World) : Prop :=
 ∃ v S D', e = .returned v ∧ RvRep w' D' res v S ∧ (∀ g, S g → w.heap.size ≤ g ∧ g < w'.heap.size ∧ ¬ D' g) ∧ (∀ g, D g → D' g) ∧ (∀ g, D' g → g < w'.heap.size ∧ (D g ∨ w.heap.size ≤ g)) ∧ Below w.heap.size w w'
def Con (P : Program) (f : FuncId) (args : List V) (res : RV) : Prop :=
 ∀ (w : World) (D : BSet) (vs : List Value), DOk w D → Reps w D false args vs Emp → Calls P f vs.toArray w (Post w D res)
def trav (f : AV → Option V) : List AV → Option (List V)
 | [] => some []
 | c :: cs => match f c, trav f cs with
  | some v, some vs => some (v :: vs)
  | _, _ => none
def snap (ln : Bool) (s : St) : Nat → AV → Option V
 | 0, _ => none
 | k + 1, c => match c with
  | .val none v => some v
  | .val (some r) v => if ln = true ∧ live (s.objs r) = true then some v else none
  | .sl r off len => match s.objs r with
   | some (.row _ sz L) => if ln = true then some (.sl sz ((L.drop off).take len)) else none
   | _ => none
  | .ptr r i f => match s.objs r with
   | some (.row _ _ L) => match L[i]? with
    | some e => if ln = true then some (.ptr (e.cells.drop f)) else none
    | none => none
   | some (.box cs) => match trav (snap ln s k) cs with
    | some vs => if ln = true ∧ vs.all V.one = true then some (.ptr (vs.drop f)) else none
    | none => none
   | _ => none
  | .agg cs => match trav (snap ln s k) cs with
   | some vs => if vs.all V.one = true then some (.agg vs) else none
   | none => none
  | .fn f cs => match trav (snap ln s k) cs with
   | some vs => some (.fn f vs)
   | none => none
  | .mp r => match s.objs r with
   | some (.map es) => if ln = true then some (.mp es) else none
   | _ => none
  | _ => none
section
variable {P : Program} {N : Fr} {w0 : Base} {D0 : BSet} {E : Env} {st : St} {a : Act} {w : World}
def Lent (E : Env) (ln : Bool) (g : Nat) : Prop := E.D g ∨ (ln = true ∧ E.all g)
theorem trav_rep {X : BSet} {f : AV → Option V} (hf : ∀ c v x, AvRep E c x → f c = some v → Rep w X false v x Emp) : ∀ {cs : List AV} {xs : List Value} {vs : List V}, AvReps E cs xs → trav f cs = some vs → Reps w X false vs xs Emp
 | [], xs, vs, h, ht => by
  simp only [trav, Option.some.injEq] at ht
  subst ht
  cases h
  exact .nil
 | c :: cs, _, vs, .cons h hs, ht => by
  simp only [trav] at ht
  split at ht
  ·rename_i v vs' h1 h2
   simp only [Option.some.injEq] at ht
   subst ht
   exact .cons (hf _ _ _ h h1) (trav_rep hf hs h2) (fun _ h => h.elim) (fun _ h => h) (fun _ h => h)
  ·cases ht
theorem snap_rep (hE : SimE N w0 D0 E st a w) {ln : Bool} : ∀ (k : Nat) (c : AV) (v : V) (x : Value), AvRep E c x → snap ln st k c = some v → Rep w (Lent E ln) false v x Emp
 | 0, c, v, x, h, hs => by simp [snap] at hs
 | k + 1, c, v, x, h, hs => by
  have ew := hE.ew
  have eo := hE.eo
  have ih := snap_rep hE (ln := ln) k
  have up : ∀ {v : V} {x : Value} {D1 : BSet}, (∀ g, D1 g → Lent E ln g) → Rep w D1 false v x Emp → Rep w (Lent E ln) false v x Emp := fun hD h => h.keep (fun g hg => ⟨hD g hg, rfl⟩) (fun h => by cases h)
  unfold snap at hs
  split at hs
  ·simp only [Option.some.injEq] at hs; subst hs
   cases h with
   | val0 h => exact up (fun g hg => .inl hg) (by rw [← ew]; exact h)
  ·split at hs
   ·rename_i r v' hl
    simp only [Option.some.injEq] at hs; subst hs
    obtain ⟨hln, hl⟩ := hl
    have hl' : live (E.objs r) = true := by rw [eo]; exact hl
    cases h with
    | val1 hr h =>
     refine up ?_ (by rw [← ew]; exact h hl')
     rintro g (hg | hg)
     ·exact .inl hg
     ·exact .inr ⟨hln, r, hl', .inl hg⟩
   ·cases hs
  ·split at hs
   ·rename_i _ r off len _ own sz L ho
    split at hs
    ·rename_i hln
     simp only [Option.some.injEq] at hs; subst hs
     have ho' : E.objs r = some (.row own sz L) := by rw [eo]; exact ho
     obtain ⟨ad, c, vs, rfl, hlc, hm, hvl, hrv, hu, hle, hpl⟩ := part_cells hE.good h ho'
     have hlen : ((L.drop off).take len).length = len := by simp; omega
     rcases hpl with ⟨rfl, rfl⟩ | ⟨g, o, cur, e, hl, rfl, hh, hs, hcells⟩
     ·have hl0 : len = 0 := by omega
      subst hl0
      simpa using Rep.nil (w := w) (D := Lent E ln) (o := false) (S := Emp) (ad := ad) sz
     ·have := Rep.slro (S := Emp) (w := w) (D := Lent E ln) (sz := sz) (L := (L.drop off).take len) (g := g) (off := o + off * sz) (c := c) (vs := vs) (.inr ⟨hln, r, live_row ho', .inr ⟨o, hl⟩⟩)
       (by rw [← ew]; exact ⟨cur, e, _, hh, hcells⟩) hu (by rw [← ew]; exact Reps.lend (fun q hq => .inl hq) hrv (fun _ q hq => .inr ⟨hln, r, live_row ho', .inl hq⟩)) (by rw [hlen]; exact hlc) hm
      rw [hlen] at this
      exact this
    ·cases hs
   ·cases hs
  ·split at hs
   ·rename_i _ r i f _ own sz L ho
    split at hs
    ·rename_i e hi
     split at hs
     ·rename_i hln
      simp only [Option.some.injEq] at hs; subst hs
      have ho' : E.objs r = some (.row own sz L) := by rw [eo]; exact ho
      cases h with
      | ptrRow hr h h' =>
       obtain ⟨hil, g, o, hl, rfl⟩ := h _ _ _ ho'
       obtain ⟨ws, q1, q2, q3, _⟩ := row_at hE ho hi hl
       refine .ptr (.inr ⟨hln, r, live_row ho', .inr ⟨o, hl⟩⟩) q2.drop (fun c hc => q3 c (List.mem_of_mem_drop hc)) ((q1.keep ?_ (fun h => by cases h)).drop f)
       rintro q (hq | hq)
       ·exact ⟨.inl hq, rfl⟩
       ·exact ⟨.inr ⟨hln, r, live_row ho', .inl hq⟩, rfl⟩
     ·cases hs
    ·cases hs
   ·rename_i _ r i f _ cs ho
    split at hs
    ·rename_i vs hv
     split at hs
     ·rename_i hln
      obtain ⟨hln, hone⟩ := hln
      simp only [Option.some.injEq] at hs; subst hs
      have ho' : E.objs r = some (.box cs) := by rw [eo]; exact ho
      cases h with
      | ptrRow hr h h' =>
       obtain ⟨_, g, hl, rfl⟩ := h' _ ho'
       obtain ⟨g', cur, e, hl', hh, hreps, _⟩ := hE.good.roots r _ ho'
       rw [hl] at hl'
       simp only [Option.some.injEq, Prod.mk.injEq, and_true] at hl'
       subst hl'
       have hrep := trav_rep ih hreps hv
       refine .ptr (.inr ⟨hln, r, by rw [ho']; rfl, .inr ⟨0, hl⟩⟩) (vs := cur.toList.drop f) ?_ (fun c hc => by have := List.all_eq_true.1 hone c (List.mem_of_mem_drop hc); exact this) (hrep.drop f)
       rw [← ew]
       refine ⟨cur, e, _, hh, fun j u hj => ?_⟩
       rw [List.getElem?_drop] at hj
       simpa using hj
     ·cases hs
    ·cases hs
   ·cases hs
  ·split at hs
   ·rename_i cs vs hv
    split at hs
    ·rename_i hone
     simp only [Option.some.injEq] at hs; subst hs
     cases h with
     | agg h1 h => exact .agg (fun c hc => List.all_eq_true.1 hone c hc) (trav_rep ih h hv)
    ·cases hs
   ·cases hs
  ·split at hs
   ·rename_i f cs vs hv
    simp only [Option.some.injEq] at hs; subst hs
    cases h with
    | fn h => exact .fn (trav_rep ih h hv)
   ·cases hs
  ·rename_i r
   split at hs
   ·rename_i es ho
    split at hs
    ·rename_i hln
     simp only [Option.some.injEq] at hs; subst hs
     rw [← eo] at ho
     obtain ⟨g, h1, h2⟩ := hE.good.roots r _ ho
     cases h with
     | mp hr h =>
      obtain ⟨g', h3, rfl⟩ := h _ ho
      rw [h1] at h3
      simp only [Option.some.injEq, Prod.mk.injEq, and_true] at h3
      subst h3
      exact .mp (.inr ⟨hln, r, by rw [ho]; rfl, .inr ⟨0, h1⟩⟩) (by rw [← ew]; exact h2)
    ·cases hs
   ·cases hs
  ·cases hs
def Env.stp (E : Env) (w' : World) (D' : BSet) : Env := { E with w := w', D := D' }
theorem stp_ok (hg : Good w0 D0 E) {w' : World} {D' : BSet} (hb : Below E.w.heap.size E.w w') (h1 : ∀ g, E.D g → D' g) (h2 : ∀ g, D' g → g < w'.heap.size ∧ (E.D g ∨ E.w.heap.size ≤ g)) : E.Le (E.stp w' D') ∧ Good w0 D0 (E.stp w' D') := by
 have hk : ∀ g, g < E.w.heap.size → w'.heap[g]? = E.w.heap[g]? := fun g hg => hb.block g hg
 have hO : ∀ r, live (E.objs r) = true → ∀ g, E.own r g → w'.heap[g]? = E.w.heap[g]? := fun r hl g ho => hk g (hg.ownIn r hl g ho).2.1
 have hle : E.Le (E.stp w' D') := by
  refine ⟨fun g hgD => ⟨h1 g hgD, hk g (hg.dIn g hgD).1⟩, fun r hr => hr, ?_⟩
  intro r hr o' ho' hnd
  have hl : live (E.objs r) = true := by
   have : E.objs r = some o' := ho'
   rw [this]; cases o' <;> first | rfl | exact absurd rfl hnd
  exact ⟨o', ho', rfl, fun g hg' => ⟨.inl hg', hO r hl g (.inl hg')⟩, by cases o' <;> simp_all, fun g q hq cur e hc => ⟨cur, e, (hO r hl g (.inr ⟨q, hq⟩)).trans hc, rfl⟩⟩
 refine ⟨hle, ⟨hg.below.below hb, ?_, fun g h => h1 g (hg.d0 g h), ?_, ?_, hg.ownS, hg.apart, hg.tabs.keep hle.d⟩⟩
 ·intro g hgD
  obtain ⟨q1, q2⟩ := h2 g hgD
  refine ⟨q1, ?_⟩
  rcases q2 with q2 | q2
  ·exact (hg.dIn g q2).2
  ·exact .inr (.inl (Nat.le_trans hg.below.size q2))
 ·intro r o ho
  by_cases hdead : o = .dead
  ·subst hdead; trivial
  ·have hl : live (E.objs r) = true := by
    have : E.objs r = some o := ho
    rw [this]; cases o <;> first | rfl | exact absurd rfl hdead
   exact (hg.roots r o ho).le hle rfl rfl (fun g hg' => hO r hl g hg')
 ·intro r hl g ho
  obtain ⟨q1, q2, q3⟩ := hg.ownIn r hl g ho
  refine ⟨q1, Nat.lt_of_lt_of_le q2 hb.size, fun hd => ?_⟩
  rcases (h2 g hd).2 with h | h
  ·exact q3 h
  ·omega
def pl1 (id : Nat) (o : Objs) : R1 → AV × Objs
 | .val v => (.val none v, o)
 | .row own sz L => (.sl id 0 L.length, upd o id (some (.row own sz L)))
def pl1L (id : Nat) (o : Objs) : List R1 → List AV × Objs
 | [] => ([], o)
 | r :: rs => let p := pl1 id o r; let q := pl1L (id + 1) p.2 rs; (p.1 :: q.1, q.2)
def pl2 (id : Nat) (o : Objs) : R2 → AV × Objs
 | .one r => pl1 id o r
 | .agg rs => let q := pl1L id o rs; (.agg q.1, q.2)
def pl2L (id : Nat) (o : Objs) : List R2 → List AV × Objs
 | [] => ([], o)
 | r :: rs => let p := pl2 id o r; let q := pl2L (id + 16) p.2 rs; (p.1 :: q.1, q.2)
def plV (id : Nat) (o : Objs) : RV → AV × Objs
 | .one r => pl2 id o r
 | .tup rs => let q := pl2L id o rs; (.tup q.1, q.2)
def R2.wide (n : Nat) : R2 → Bool
 | .one _ => true
 | .agg rs => rs.length ≤ n
def R2.fits (r : R2) : Bool := r.wide 16
def RV.fits : RV → Bool
 | .one r => r.wide 64
 | .tup rs => rs.length ≤ 4 && rs.all R2.fits
def Spare (w0 : Base) (E : Env) (S : BSet) : Prop := ∀ g, S g → Fresh w0 E g ∧ g < E.w.heap.size ∧ ¬ E.D g
theorem pl1_rep (hg : Good w0 D0 E) {id : Nat} (hf : E.objs id = none) {r : R1} {x : Value} {S : BSet} (h : R1Rep E.w E.D r x S) (hS : Spare w0 E S) :
  ∃ E', E.Le E' ∧ Good w0 D0 E' ∧ E'.w = E.w ∧ E'.D = E.D ∧ E'.objs = (pl1 id E.objs r).2 ∧ AvRep E' (pl1 id E.objs r).1 x ∧ (∀ T : BSet, (∀ q, S q → ¬ T q) → Spare w0 E T → Spare w0 E' T) := by
 cases h with
 | val h => exact ⟨E, Env.Le.refl E, hg, rfl, rfl, rfl, .val0 h, fun T _ h => h⟩
 | nil =>
  rename_i own sz ad
  have hm : MkOk w0 E E.objs E.w E.D id none Emp := ⟨Dies.refl _, hf, fun g h => h, fun g h => .inl h, (fun g h => by rcases h with h | ⟨q, h⟩ <;> cases h), (fun g q h => by cases h), .inl (Below.refl _ _)⟩
  refine ⟨E.mkr E.objs E.w E.D id (.row own sz []) none Emp, mkr_le hg hm, mkr_good hg hm (by simp [RootRep, Env.mkr, upd_same]), rfl, rfl, rfl, .sl (by simp [Env.mkr, upd_same]) ?_, ?_⟩
  ·intro own' sz' L' ho'
   simp only [Env.mkr, upd_same, Option.some.injEq, Root.row.injEq] at ho'
   obtain ⟨rfl, rfl, rfl⟩ := ho'
   exact ⟨by simp, by simp [SlAt, Env.mkr, upd_same]⟩
  ·intro T hd hT g hgT
   obtain ⟨⟨q1, q2⟩, q3, q4⟩ := hT g hgT
   refine ⟨⟨q1, fun r hl ho => ?_⟩, q3, q4⟩
   by_cases e : r = id
   ·subst e
    simp only [Env.own, Env.mkr, upd_same] at ho
    rcases ho with ho | ⟨q, ho⟩ <;> cases ho
   ·simp only [Env.mkr, upd_ne e] at hl
    exact q2 r hl (by simpa [Env.own, Env.mkr, upd_ne e] using ho)
 | row hSg hT hgT hb hu hr hc hm hz =>
  rename_i own sz L g o c vs T
  obtain ⟨⟨f1, f2⟩, f3, f4⟩ := hS g hSg
  have hmk : MkOk w0 E E.objs E.w E.D id (some (g, o)) T := by
   refine ⟨Dies.refl _, hf, fun g h => h, fun g h => .inl h, ?_, ?_, .inl (Below.refl _ _)⟩
   ·rintro q (hq | ⟨p, hq⟩)
    ·obtain ⟨k1, k2, k3⟩ := hS q (hT q hq)
     exact ⟨.inr k1, k2, k3⟩
    ·simp only [Option.some.injEq, Prod.mk.injEq] at hq
     obtain ⟨rfl, rfl⟩ := hq
     exact ⟨.inr ⟨f1, f2⟩, f3, f4⟩
   ·intro q p hq
    simp only [Option.some.injEq, Prod.mk.injEq] at hq
    obtain ⟨rfl, rfl⟩ := hq
    exact hgT
  refine ⟨E.mkr E.objs E.w E.D id (.row own sz L) (some (g, o)) T, mkr_le hg hmk, mkr_good hg hmk ?_, rfl, rfl, rfl, .sl (by simp [Env.mkr, upd_same]) ?_, ?_⟩
  ·simp only [RootRep, Env.mkr, upd_same]
   exact ⟨vs, hb, hu, hr⟩
  ·intro own' sz' L' ho'
   simp only [Env.mkr, upd_same, Option.some.injEq, Root.row.injEq] at ho'
   obtain ⟨rfl, rfl, rfl⟩ := ho'
   refine ⟨by simp, ?_⟩
   simp only [SlAt, Env.mkr, upd_same]
   obtain ⟨cur, e, hz1, hz2⟩ := hz
   exact ⟨_, c, rfl, hc, hm, fun _ => by simp, fun _ => .inr ⟨o, rfl⟩, by omega, cur, e, hz1, fun hne => by simpa using hz2 hne⟩
  ·intro U hd hU q hq
   obtain ⟨⟨q1, q2⟩, q3, q4⟩ := hU q hq
   refine ⟨⟨q1, fun r hl ho => ?_⟩, q3, q4⟩
   by_cases e : r = id
   ·subst e
    simp only [Env.own, Env.mkr, upd_same] at ho
    rcases ho with ho | ⟨p, ho⟩
    ·exact hd q (hT q ho) hq
    ·simp only [Option.some.injEq, Prod.mk.injEq] at ho
     obtain ⟨rfl, rfl⟩ := ho
     exact hd g hSg hq
   ·simp only [Env.mkr, upd_ne e] at hl
    exact q2 r hl (by simpa [Env.own, Env.mkr, upd_ne e] using ho)
end
end Go.Ab
