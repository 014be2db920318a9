import Derived.Test.YtpnmhfbiaajaeaaGreatDoorM1
set_option linter.unusedVariables false
set_option linter.unusedSimpArgs false
namespace Go.Ab
open Go.RowKit
def YRep (w : World) (D : BSet) : V → Value → Prop
 | .agg [], y => y = .tuple #[]
 | v, y => Rep w D false v y Emp
def yav : V → AV
 | .agg [] => .undef
 | v => .val none v
theorem yrep_ne {w : World} {D : BSet} {v : V} {y : Value} (e : v ≠ .agg []) : YRep w D v y = Rep w D false v y Emp ∧ yav v = .val none v := by
 cases v <;> first | exact ⟨rfl, rfl⟩ | (rename_i cs; cases cs <;> first | exact ⟨rfl, rfl⟩ | exact absurd rfl e)
theorem yav_rep {E : Env} {v : V} {y : Value} (h : YRep E.w E.D v y) : AvRep E (yav v) y := by
 by_cases e : v = .agg []
 ·subst e
  have h : y = .tuple #[] := h
  subst h
  exact by simpa [yav] using AvRep.tup (E := E) AvReps.nil
 ·rw [(yrep_ne e).1] at h
  rw [(yrep_ne (w := E.w) (D := E.D) (y := y) e).2]
  exact .val0 h
def PostM (w : World) (D S : BSet) (x : Value) (r' : R2) (rv : V) (e : Ending) (w' : World) : Prop :=
 ∃ y S', e = .returned y ∧ YRep w' D rv y ∧ R2Rep w' D r' x S' ∧ (∀ g, S' g → (S g ∨ w.heap.size ≤ g) ∧ g < w'.heap.size ∧ ¬ D g) ∧ Stays ⟨w, S, x⟩ w'
def ConM (P : Program) (f : FuncId) (r r' : R2) (ro : List V) (rv : V) : Prop :=
 ∀ (w : World) (D S : BSet) (x : Value) (vs : List Value), DOk w D → (∀ g, S g → g < w.heap.size ∧ ¬ D g) → R2Rep w D r x S → Reps w D false ro vs Emp → Calls P f (x :: vs).toArray w (PostM w D S x r' rv)
mutual
def scrA (l : List Nat) : AV → AV
 | .val (some r) v => if l.contains r = true then .bad else .val (some r) v
 | .agg cs => .agg (scrAs l cs)
 | .tup cs => .tup (scrAs l cs)
 | .fn f cs => .fn f (scrAs l cs)
 | c => c
def scrAs (l : List Nat) : List AV → List AV
 | [] => []
 | c :: cs => scrA l c :: scrAs l cs
end
def scrR (l : List Nat) : Root → Root
 | .box cs => .box (scrAs l cs)
 | o => o
structure Env.LeX (l : List Nat) (E E' : Env) : Prop where
 d : ∀ g, E.D g → E'.D g ∧ E'.w.heap[g]? = E.w.heap[g]?
 known : ∀ r, E.objs r ≠ none → E'.objs r ≠ none
 old : ∀ r, E.objs r ≠ none → ∀ o', E'.objs r = some o' → o' ≠ .dead → ∃ o, E.objs r = some o ∧ E'.loc r = E.loc r ∧
   (l.contains r = false → ∀ g, E.S r g → (E'.S r g ∨ E'.D g) ∧ E'.w.heap[g]? = E.w.heap[g]?) ∧
   (match o, o' with
    | .row _ sz L, .row _ sz' L' => sz' = sz ∧ L'.length = L.length
    | .box _, .box _ => True
    | .map _, .map _ => True
    | _, _ => False) ∧
   (∀ g q, E.loc r = some (g, q) → ∀ cur e, E.w.heap[g]? = some (.cells cur e (0, 0)) → ∃ cur' e', E'.w.heap[g]? = some (.cells cur' e' (0, 0)) ∧ cur'.size = cur.size)
mutual
theorem AvRep.lex {l : List Nat} {E E' : Env} (hE : E.LeX l E') : ∀ {c : AV} {x : Value}, AvRep E c x → AvRep E' (scrA l c) x
 | _, _, .val0 h => by
  simp only [scrA]
  exact .val0 (h.keep hE.d (fun h => by cases h))
 | _, _, .val1 (r := r) hr h => by
  simp only [scrA]
  split
  ·exact .bad
  ·rename_i hl
   have hl : l.contains r = false := by simpa using hl
   refine .val1 (hE.known r hr) (fun hs => ?_)
   obtain ⟨o', ho', hnd⟩ := live_some hs
   obtain ⟨o, ho, _, hS, hsh, _⟩ := hE.old r hr o' ho' hnd
   refine (h ?_).keep ?_ (fun h => by cases h)
   ·rw [ho]
    cases o <;> first | rfl | (cases o' <;> exact hsh.elim)
   rintro g (hg | hg)
   ·exact ⟨Or.inl (hE.d g hg).1, (hE.d g hg).2⟩
   ·exact ⟨(hS hl g hg).1.elim Or.inr Or.inl, (hS hl g hg).2⟩
 | _, _, .sl (r := r) hr h => by
  simp only [scrA]
  refine .sl (hE.known r hr) (fun own sz L ho' => ?_)
  obtain ⟨o, ho, hl, _, hsh, hb⟩ := hE.old r hr _ ho' (by simp)
  cases o with
  | box cs => exact hsh.elim
  | dead => exact hsh.elim
  | map _ => exact hsh.elim
  | row own0 sz0 L0 =>
   obtain ⟨rfl, hL⟩ := hsh
   obtain ⟨h1, h2⟩ := h _ _ _ ho
   rw [hL, hl]
   exact ⟨h1, h2.keep hb⟩
 | _, _, .ptrRow (r := r) hr h h' => by
  simp only [scrA]
  refine .ptrRow (hE.known r hr) (fun own sz L ho' => ?_) (fun cs ho' => ?_)
  ·obtain ⟨o, ho, hl, _, hsh, hb⟩ := hE.old r hr _ ho' (by simp)
   cases o with
   | box cs => exact hsh.elim
   | dead => exact hsh.elim
   | map _ => exact hsh.elim
   | row own0 sz0 L0 =>
    obtain ⟨rfl, hL⟩ := hsh
    obtain ⟨h1, h2⟩ := h _ _ _ ho
    rw [hL, hl]
    exact ⟨h1, h2⟩
  ·obtain ⟨o, ho, hl, _, hsh, hb⟩ := hE.old r hr _ ho' (by simp)
   cases o with
   | row _ _ _ => exact hsh.elim
   | dead => exact hsh.elim
   | map _ => exact hsh.elim
   | box cs0 =>
    rw [hl]
    exact h' _ ho
 | _, _, .agg h1 h => by simp only [scrA]; exact .agg h1 (AvReps.lex hE h)
 | _, _, .tup h => by simp only [scrA]; exact .tup (AvReps.lex hE h)
 | _, _, .fn h => by simp only [scrA]; exact .fn (AvReps.lex hE h)
 | _, _, .bad => by simp only [scrA]; exact .bad
 | _, _, .ub => by simp only [scrA]; exact .ub
 | _, _, .e0 => by simp only [scrA]; exact .e0
 | _, _, .mp (r := r) hr h => by
  simp only [scrA]
  refine .mp (hE.known r hr) (fun es ho' => ?_)
  obtain ⟨o, ho, hl, _, hsh, hb⟩ := hE.old r hr _ ho' (by simp)
  cases o with
  | row _ _ _ => exact hsh.elim
  | dead => exact hsh.elim
  | box _ => exact hsh.elim
  | map es0 =>
   rw [hl]
   exact h _ ho
theorem AvReps.lex {l : List Nat} {E E' : Env} (hE : E.LeX l E') : ∀ {c : List AV} {x : List Value}, AvReps E c x → AvReps E' (scrAs l c) x
 | _, _, .nil => by simp only [scrAs]; exact .nil
 | _, _, .cons h hs => by simp only [scrAs]; exact .cons (AvRep.lex hE h) (AvReps.lex hE hs)
end
def Env.mod (E : Env) (w' : World) (M : Nat → Prop) (Sf : Nat → BSet) (ob : Objs) : Env :=
 { w := w', D := E.D, S := fun q g => (M q ∧ Sf q g) ∨ (¬ M q ∧ E.S q g), loc := E.loc, objs := ob }
def Env.ownsM (E : Env) (M : Nat → Prop) (g : Nat) : Prop := ∃ q, M q ∧ E.own q g
structure ModOk (E : Env) (l : List Nat) (w' : World) (M : Nat → Prop) (Sf : Nat → BSet) (ob : Objs) (x : Value) : Prop where
 stays : Stays ⟨E.w, E.ownsM M, x⟩ w'
 sub : ∀ q, M q → l.contains q = true
 rows : ∀ q, M q → ∃ sz L L' g o vs, E.objs q = some (.row true sz L) ∧ ob q = some (.row true sz L') ∧ L'.length = L.length ∧ E.loc q = some (g, o) ∧ BlkO w' g o vs ∧ Uni sz L' ∧ Reps w' E.D true (L'.flatMap V.cells) vs (Sf q) ∧ ¬ Sf q g
 sf : ∀ q, M q → ∀ g, Sf q g → (E.ownsM M g ∨ E.w.heap.size ≤ g) ∧ g < w'.heap.size ∧ ¬ E.D g
 apart : ∀ q q', M q → M q' → q ≠ q' → ∀ g, Sf q g → ¬ Sf q' g ∧ ∀ o, E.loc q' ≠ some (g, o)
 rest : ∀ q, ¬ M q → ob q = (E.objs q).map (scrR l)
section
variable {P : Program} {N : Fr} {w0 : Base} {D0 : BSet} {E : Env} {st : St} {a : Act} {w : World}
variable {l : List Nat} {w' : World} {M : Nat → Prop} {Sf : Nat → BSet} {ob : Objs} {x : Value}
theorem live_map {o : Option Root} : live (o.map (scrR l)) = live o := by
 cases o with
 | none => rfl
 | some o => cases o <;> rfl
theorem mod_keep (hg : Good w0 D0 E) (h : ModOk E l w' M Sf ob x) : (∀ g, E.D g → w'.heap[g]? = E.w.heap[g]?) ∧ (∀ q, ¬ M q → live (E.objs q) = true → ∀ g, E.own q g → w'.heap[g]? = E.w.heap[g]?) := by
 have lv : ∀ q, M q → live (E.objs q) = true := fun q hq => by obtain ⟨sz, L, _, _, _, _, h1, _⟩ := h.rows q hq; exact live_row h1
 refine ⟨fun g hgD => h.stays.block g (hg.dIn g hgD).1 ?_, fun q hq hl g ho => h.stays.block g (hg.ownIn q hl g ho).2.1 ?_⟩
 ·rintro ⟨q, hq, ho⟩
  exact (hg.ownIn q (lv q hq) g ho).2.2 hgD
 ·rintro ⟨q', hq', ho'⟩
  have hne : q ≠ q' := fun e => hq (e ▸ hq')
  exact hg.apart q q' hne hl (lv q' hq') g ho ho'
theorem mod_lex (hg : Good w0 D0 E) (h : ModOk E l w' M Sf ob x) : E.LeX l (E.mod w' M Sf ob) := by
 obtain ⟨kD, kO⟩ := mod_keep hg h
 refine ⟨fun g hgD => ⟨hgD, kD g hgD⟩, ?_, ?_⟩
 ·intro r hr
  by_cases hm : M r
  ·obtain ⟨_, _, _, _, _, _, _, h2, _⟩ := h.rows r hm
   show ob r ≠ none
   rw [h2]; simp
  ·show ob r ≠ none
   rw [h.rest r hm]
   intro hn
   exact hr (by simpa using hn)
 ·intro r hr o' ho' hnd
  have ho' : ob r = some o' := ho'
  by_cases hm : M r
  ·obtain ⟨sz, L, L', g, o, vs, h1, h2, h3, h4, h5, h6, h7, h8⟩ := h.rows r hm
   rw [h2] at ho'
   simp only [Option.some.injEq] at ho'; subst ho'
   refine ⟨_, h1, rfl, fun hc => ?_, ⟨rfl, h3⟩, fun g' q' hl' cur e hcur => h.stays.held g' cur e hcur⟩
   rw [h.sub r hm] at hc; cases hc
  ·rw [h.rest r hm] at ho'
   obtain ⟨o, ho, rfl⟩ := Option.map_eq_some_iff.1 ho'
   have hl : live (E.objs r) = true := by rw [ho]; cases o <;> first | rfl | exact absurd rfl hnd
   refine ⟨o, ho, rfl, fun _ g hS => ⟨.inl (.inr ⟨hm, hS⟩), kO r hm hl g (.inl hS)⟩, by cases o <;> simp_all [scrR], fun g' q' hl' cur e hcur => h.stays.held g' cur e hcur⟩
theorem mod_good (hg : Good w0 D0 E) (h : ModOk E l w' M Sf ob x) : Good w0 D0 (E.mod w' M Sf ob) := by
 obtain ⟨kD, kO⟩ := mod_keep hg h
 have hle := mod_lex hg h
 have lv : ∀ q, M q → live (E.objs q) = true := fun q hq => by obtain ⟨sz, L, _, _, _, _, h1, _⟩ := h.rows q hq; exact live_row h1
 have oNew : ∀ g, E.ownsM M g → w0.new g := fun g ⟨q, hq, ho⟩ => (hg.ownIn q (lv q hq) g ho).1
 have oLt : ∀ g, E.ownsM M g → g < E.w.heap.size := fun g ⟨q, hq, ho⟩ => (hg.ownIn q (lv q hq) g ho).2.1
 have liveOld : ∀ q, live (ob q) = true → live (E.objs q) = true := by
  intro q hq
  by_cases hm : M q
  ·exact lv q hm
  ·rw [h.rest q hm, live_map] at hq; exact hq
 -- what a root owns now
 have ownO : ∀ q, ¬ M q → ∀ g, (E.mod w' M Sf ob).own q g → E.own q g := by
  rintro q hm g ((⟨h1, _⟩ | ⟨_, h1⟩) | h1)
  ·exact absurd h1 hm
  ·exact .inl h1
  ·exact .inr h1
 have ownM' : ∀ q, M q → ∀ g, (E.mod w' M Sf ob).own q g → (Sf q g ∨ ∃ o, E.loc q = some (g, o)) := by
  rintro q hm g ((⟨_, h1⟩ | ⟨h1, _⟩) | h1)
  ·exact .inl h1
  ·exact absurd hm h1
  ·exact .inr h1
 refine ⟨hg.below.trans h.stays oNew, ?_, hg.d0, ?_, ?_, ?_, ?_, hg.tabs.keep hle.d⟩
 ·intro g hgD
  obtain ⟨q1, q2⟩ := hg.dIn g hgD
  exact ⟨Nat.lt_of_lt_of_le q1 h.stays.size, q2⟩
 ·intro r o ho
  have ho : ob r = some o := ho
  by_cases hm : M r
  ·obtain ⟨sz, L, L', g, q, vs, h1, h2, h3, h4, h5, h6, h7, h8⟩ := h.rows r hm
   rw [h2] at ho
   simp only [Option.some.injEq] at ho; subst ho
   have hl : (E.mod w' M Sf ob).loc r = some (g, q) := h4
   simp only [RootRep, hl]
   exact ⟨vs, h5, h6, h7.wide (fun g hg => .inl ⟨hm, hg⟩)⟩
  ·rw [h.rest r hm] at ho
   obtain ⟨o1, ho1, rfl⟩ := Option.map_eq_some_iff.1 ho
   have hroot := hg.roots r o1 ho1
   cases o1 with
   | dead => trivial
   | row own sz L =>
    have hl : live (E.objs r) = true := live_row ho1
    cases hloc : E.loc r with
    | none =>
     have hl' : (E.mod w' M Sf ob).loc r = none := hloc
     simp only [RootRep, hloc] at hroot
     simp only [scrR, RootRep, hl']
     exact hroot
    | some gq =>
     obtain ⟨g, q⟩ := gq
     have hl' : (E.mod w' M Sf ob).loc r = some (g, q) := hloc
     simp only [RootRep, hloc] at hroot
     simp only [scrR, RootRep, hl']
     obtain ⟨vs, hb, hu, hr⟩ := hroot
     refine ⟨vs, hb.keep (kO r hm hl g (.inr ⟨q, hloc⟩)), hu, ?_⟩
     exact (hr.keep (fun g hgD => ⟨hgD, kD g hgD⟩) (fun _ g hS => kO r hm hl g (.inl hS))).wide (fun g hS => .inr ⟨hm, hS⟩)
   | box cs =>
    have hl : live (E.objs r) = true := by rw [ho1]; rfl
    obtain ⟨g, cur, e, b1, b2, b3, b4⟩ := hroot
    exact ⟨g, cur, e, b1, (kO r hm hl g (.inr ⟨0, b1⟩)).trans b2, b3.lex hle, b4⟩
   | map es =>
    have hl : live (E.objs r) = true := by rw [ho1]; rfl
    obtain ⟨g, b1, b2⟩ := hroot
    exact ⟨g, b1, (kO r hm hl g (.inr ⟨0, b1⟩)).trans b2⟩
 ·intro r hl g ho
  have hl0 := liveOld r hl
  by_cases hm : M r
  ·rcases ownM' r hm g ho with h1 | ⟨o, h1⟩
   ·obtain ⟨q1, q2, q3⟩ := h.sf r hm g h1
    refine ⟨?_, q2, q3⟩
    rcases q1 with q1 | q1
    ·exact oNew g q1
    ·exact .inl (Nat.le_trans hg.below.size q1)
   ·obtain ⟨q1, q2, q3⟩ := hg.ownIn r hl0 g (.inr ⟨o, h1⟩)
    exact ⟨q1, Nat.lt_of_lt_of_le q2 h.stays.size, q3⟩
  ·obtain ⟨q1, q2, q3⟩ := hg.ownIn r hl0 g (ownO r hm g ho)
   exact ⟨q1, Nat.lt_of_lt_of_le q2 h.stays.size, q3⟩
 ·intro r hl g o hlo hS
  have hlo : E.loc r = some (g, o) := hlo
  rcases hS with ⟨hm, hS⟩ | ⟨hm, hS⟩
  ·obtain ⟨sz, L, L', g', q, vs, h1, h2, h3, h4, h5, h6, h7, h8⟩ := h.rows r hm
   rw [hlo] at h4
   simp only [Option.some.injEq, Prod.mk.injEq] at h4
   obtain ⟨rfl, rfl⟩ := h4
   exact h8 hS
  ·exact hg.ownS r (liveOld r hl) g o hlo hS
 ·have cross : ∀ q q', M q → ¬ M q' → live (E.objs q') = true → ∀ g, (E.mod w' M Sf ob).own q g → ¬ (E.mod w' M Sf ob).own q' g := by
   intro q q' hm hm' hl' g ho ho'
   have ho2 := ownO q' hm' g ho'
   have hne : q ≠ q' := fun e => hm' (e ▸ hm)
   rcases ownM' q hm g ho with h1 | ⟨o, h1⟩
   ·rcases (h.sf q hm g h1).1 with ⟨q2, hq2, h2⟩ | h2
    ·exact hg.apart q2 q' (fun e => hm' (e ▸ hq2)) (lv q2 hq2) hl' g h2 ho2
    ·have := (hg.ownIn q' hl' g ho2).2.1; omega
   ·exact hg.apart q q' hne (lv q hm) hl' g (.inr ⟨o, h1⟩) ho2
  intro r r' hne hl hl' g ho ho'
  by_cases hm : M r
  ·by_cases hm' : M r'
   ·rcases ownM' r hm g ho with h1 | ⟨o, h1⟩
    ·rcases ownM' r' hm' g ho' with h2 | ⟨o2, h2⟩
     ·exact (h.apart r r' hm hm' hne g h1).1 h2
     ·exact (h.apart r r' hm hm' hne g h1).2 o2 h2
    ·rcases ownM' r' hm' g ho' with h2 | ⟨o2, h2⟩
     ·exact (h.apart r' r hm' hm (fun e => hne e.symm) g h2).2 o h1
     ·exact hg.apart r r' hne (lv r hm) (lv r' hm') g (.inr ⟨o, h1⟩) (.inr ⟨o2, h2⟩)
   ·exact cross r r' hm hm' (liveOld r' hl') g ho ho'
  ·by_cases hm' : M r'
   ·exact cross r' r hm' hm (liveOld r hl) g ho' ho
   ·exact hg.apart r r' hne (liveOld r hl) (liveOld r' hl') g (ownO r hm g ho) (ownO r' hm' g ho')
end
def takeM1 (s : St) : AV → Option (R1 × List Nat)
 | .val none v => if v.plain = true then some (.val v, []) else none
 | .sl r off len => match s.objs r with
  | some (.row true sz L) => if off = 0 ∧ len = L.length then some (.row true sz L, [r]) else none
  | _ => none
 | _ => none
def takeML (s : St) : List AV → Option (List R1 × List Nat)
 | [] => some ([], [])
 | c :: cs => match takeM1 s c, takeML s cs with
  | some (r, l), some (rs, ls) => some (r :: rs, l ++ ls)
  | _, _ => none
def takeM (s : St) (c : AV) : Option (R2 × List Nat) := match c with
 | .agg cs => match takeML s cs with
  | some (rs, l) => some (.agg rs, l)
  | none => none
 | c => match takeM1 s c with
  | some (r, l) => some (.one r, l)
  | none => none
def like1 : R1 → R1 → Prop
 | .val v, .val v' => v' = v
 | .row _ sz L, .row own' sz' L' => own' = true ∧ sz' = sz ∧ L'.length = L.length
 | _, _ => False
def likeL : List R1 → List R1 → Prop
 | [], [] => True
 | r :: rs, r' :: rs' => like1 r r' ∧ likeL rs rs'
 | _, _ => False
def like2 : R2 → R2 → Prop
 | .one r, .one r' => like1 r r'
 | .agg rs, .agg rs' => likeL rs rs'
 | _, _ => False
def newO (o : Objs) : List AV → List R1 → Objs
 | .sl r _ _ :: cs, .row own sz L :: rs => upd (newO o cs rs) r (some (.row own sz L))
 | _ :: cs, _ :: rs => newO o cs rs
 | _, _ => o
def newO2 (o : Objs) (c : AV) : R2 → Objs
 | .one r => newO o [c] [r]
 | .agg rs => match c with
  | .agg cs => newO o cs rs
  | _ => o
section
variable {P : Program} {N : Fr} {w0 : Base} {D0 : BSet} {E : Env} {st : St} {a : Act} {w : World}
theorem Env.ownsM_sub {M M' : Nat → Prop} (h : ∀ q, M q → M' q) : ∀ g, E.ownsM M g → E.ownsM M' g := fun g ⟨q, hq, ho⟩ => ⟨q, h q hq, ho⟩
theorem hand (hE : SimE N w0 D0 E st a w) (base : Objs) : ∀ {cs : List AV} {xs : List Value} {rs : List R1} {l : List Nat}, AvReps E cs xs → takeML st cs = some (rs, l) → l.Nodup →
  ∃ M : Nat → Prop, (∀ q, M q → q ∈ l) ∧ (∀ q, M q → live (E.objs q) = true) ∧ R1Reps w E.D rs xs (E.ownsM M) ∧
   ∀ (w' : World) (rs' : List R1) (S' : BSet), likeL rs rs' → R1Reps w' E.D rs' xs S' →
    ∃ Sf : Nat → BSet, (∀ q, M q → ∃ sz L L' g o vs, E.objs q = some (.row true sz L) ∧ newO base cs rs' q = some (.row true sz L') ∧ L'.length = L.length ∧ E.loc q = some (g, o) ∧ BlkO w' g o vs ∧ Uni sz L' ∧ Reps w' E.D true (L'.flatMap V.cells) vs (Sf q) ∧ ¬ Sf q g ∧ S' g ∧ ∀ p, Sf q p → S' p) ∧
     (∀ q q', M q → M q' → q ≠ q' → ∀ g, Sf q g → ¬ Sf q' g ∧ ∀ o, E.loc q' ≠ some (g, o)) ∧
     (∀ q, ¬ M q → newO base cs rs' q = base q ∨ ∃ sz, E.objs q = some (.row true sz []) ∧ newO base cs rs' q = some (.row true sz []))
 | [], _, rs, l, .nil, ht, hn => by
  simp only [takeML, Option.some.injEq, Prod.mk.injEq] at ht
  obtain ⟨rfl, rfl⟩ := ht
  refine ⟨fun _ => False, fun _ h => h.elim, fun _ h => h.elim, .nil, fun w' rs' S' hl hr => ⟨fun _ => Emp, fun _ h => h.elim, fun _ _ h => h.elim, fun q _ => .inl ?_⟩⟩
  cases rs' <;> rfl
 | c :: cs, _, rs, l, .cons (v := x) (vs := xs) h hs, ht, hn => by
  have ew := hE.ew
  have eo := hE.eo
  have hg := hE.good
  simp only [takeML] at ht
  split at ht
  ·rename_i r1 l1 rs1 ls1 h1 h2
   simp only [Option.some.injEq, Prod.mk.injEq] at ht
   obtain ⟨rfl, rfl⟩ := ht
   obtain ⟨M, m1, m2, m3, m4⟩ := hand hE base hs h2 (List.nodup_append.1 hn).2.1
   unfold takeM1 at h1
   split at h1
   ·-- a plain value
    split at h1
    ·rename_i v hp
     simp only [Option.some.injEq, Prod.mk.injEq] at h1
     obtain ⟨rfl, rfl⟩ := h1
     refine ⟨M, fun q hq => by simpa using m1 q hq, m2, ?_, ?_⟩
     ·cases h with
      | val0 h => exact .cons (S1 := Emp) (S2 := E.ownsM M) (.val (by rw [← ew]; exact h)) m3 (fun _ h => h.elim) (fun _ h => h.elim) (fun _ h => h)
     ·intro w' rs' S' hl hr
      cases rs' with
      | nil => exact hl.elim
      | cons r' rs' =>
       cases hr with
       | cons hr1 hr2 hd hs1 hs2 =>
        obtain ⟨Sf, k1, k2, k3⟩ := m4 w' rs' _ hl.2 hr2
        have e : newO base (.val none v :: cs) (r' :: rs') = newO base cs rs' := by cases r' <;> rfl
        refine ⟨Sf, fun q hq => ?_, k2, by rw [e]; exact k3⟩
        rw [e]
        obtain ⟨sz, L, L', g, o, vs, b1, b2, b3, b4, b5, b6, b7, b8, b9, b10⟩ := k1 q hq
        exact ⟨sz, L, L', g, o, vs, b1, b2, b3, b4, b5, b6, b7, b8, hs2 _ b9, fun p hp => hs2 _ (b10 p hp)⟩
    ·cases h1
   ·-- a row
    rename_i r off len
    split at h1
    ·rename_i sz L ho
     split at h1
     ·rename_i hw
      obtain ⟨rfl, rfl⟩ := hw
      simp only [Option.some.injEq, Prod.mk.injEq] at h1
      obtain ⟨rfl, rfl⟩ := h1
      have ho' : E.objs r = some (.row true sz L) := by rw [eo]; exact ho
      have hrl : r ∉ ls1 := by
       have := (List.nodup_append.1 hn).2.2 r (by simp)
       exact fun hm => this r hm rfl
      have hrM : ¬ M r := fun hm => hrl (m1 r hm)
      obtain ⟨ad, c, vs, rfl, hlc, hm, hvl, hrv, hu, hle, hpl⟩ := part_cells hg h ho'
      have hpart : (L.drop 0).take L.length = L := by simp
      rw [hpart] at hrv hu
      by_cases hc0 : c = 0
      ·-- empty, and no room
       subst hc0
       have hL0 : L = [] := List.eq_nil_of_length_eq_zero (by omega)
       subst hL0
       refine ⟨M, fun q hq => by simp [m1 q hq], m2, .cons (S1 := Emp) (S2 := E.ownsM M) .nil m3 (fun _ h => h.elim) (fun _ h => h.elim) (fun _ h => h), ?_⟩
       intro w' rs' S' hl hr
       cases rs' with
       | nil => exact hl.elim
       | cons r' rs' =>
        cases hr with
        | cons hr1 hr2 hd hs1 hs2 =>
         obtain ⟨Sf, k1, k2, k3⟩ := m4 w' rs' _ hl.2 hr2
         cases r' with
         | val v' => exact hl.1.elim
         | row own' sz' L' =>
          obtain ⟨rfl, rfl, hl3⟩ := hl.1
          have hL' : L' = [] := List.eq_nil_of_length_eq_zero hl3
          subst hL'
          have e : ∀ q, newO base (.sl r 0 (List.length ([] : List V)) :: cs) (.row true sz' [] :: rs') q = if q = r then some (.row true sz' []) else newO base cs rs' q := by
           intro q
           by_cases e : q = r
           ·subst e; simp [newO, upd_same]
           ·simp [newO, upd_ne e, e]
          refine ⟨Sf, fun q hq => ?_, k2, fun q hq => ?_⟩
          ·obtain ⟨sz, L, L', g, o, vs, b1, b2, b3, b4, b5, b6, b7, b8, b9, b10⟩ := k1 q hq
           have hne : q ≠ r := fun e => hrM (e ▸ hq)
           exact ⟨sz, L, L', g, o, vs, b1, by rw [e, if_neg hne]; exact b2, b3, b4, b5, b6, b7, b8, hs2 _ b9, fun p hp => hs2 _ (b10 p hp)⟩
          ·rw [e]
           by_cases hqr : q = r
           ·subst hqr; rw [if_pos rfl]; exact .inr ⟨sz', ho', rfl⟩
           ·rw [if_neg hqr]; exact k3 q hq
      ·rcases hpl with ⟨h0, _⟩ | ⟨g, o, cur, e', hl, rfl, hh, hs', hcells⟩
       ·exact absurd h0 hc0
       ·simp only [Nat.zero_mul, Nat.add_zero, Nat.zero_add] at hs' hcells
        have hlr : live (E.objs r) = true := live_row ho'
        refine ⟨fun q => q = r ∨ M q, ?_, ?_, ?_, ?_⟩
        ·rintro q (rfl | hq)
         ·simp
         ·simp [m1 q hq]
        ·rintro q (rfl | hq)
         ·exact hlr
         ·exact m2 q hq
        ·refine .cons (S1 := E.own r) (S2 := E.ownsM M) ?_ m3 ?_ (fun g hg => ⟨r, .inl rfl, hg⟩) (E.ownsM_sub (fun q hq => .inr hq))
         ·have := R1Rep.row (w := w) (D := E.D) (own := true) (sz := sz) (L := L) (g := g) (o := o) (c := c) (vs := vs) (S := E.own r) (T := E.S r) (.inr ⟨o, hl⟩) (fun q hq => .inl hq) (hg.ownS r hlr g o hl)
           (by rw [← ew]; exact ⟨cur, e', hh, hcells⟩) hu (by rw [← ew]; exact hrv) hlc hm ⟨cur, e', by rw [← ew]; exact hh, fun _ => hs'⟩
          simpa using this
         ·rintro p hp ⟨q, hq, hqp⟩
          exact hg.apart r q (fun e => hrM (e ▸ hq)) hlr (m2 q hq) p hp hqp
        ·intro w' rs' S' hl' hr
         cases rs' with
         | nil => exact hl'.elim
         | cons r' rs' =>
          cases hr with
          | cons hr1 hr2 hd hs1 hs2 =>
           rename_i S1' S2'
           obtain ⟨Sf, k1, k2, k3⟩ := m4 w' rs' _ hl'.2 hr2
           cases r' with
           | val v' => exact hl'.1.elim
           | row own' sz' L' =>
            obtain ⟨rfl, rfl, hl3⟩ := hl'.1
            have hrow : ∃ vs' T, BlkO w' g o vs' ∧ Uni sz' L' ∧ Reps w' E.D true (L'.flatMap V.cells) vs' T ∧ ¬ T g ∧ S1' g ∧ ∀ p, T p → S1' p := by
             generalize hx : (Value.slice (some ⟨g, o + 0 * sz', none⟩) L.length c) = xx at hr1
             cases hr1 with
             | nil => simp only [Value.slice.injEq] at hx; exact absurd hx.2.2 hc0
             | row hS hT hgT hb hu' hr' _ _ _ =>
              simp only [Value.slice.injEq, Option.some.injEq, Addr.mk.injEq, Nat.zero_mul, Nat.add_zero] at hx
              obtain ⟨⟨rfl, rfl, _⟩, _, _⟩ := hx
              exact ⟨_, _, hb, hu', hr', hgT, hS, hT⟩
            obtain ⟨vs', T, t1, t2, t3, t4, t5, t6⟩ := hrow
            have e : ∀ q, newO base (.sl r 0 L.length :: cs) (.row true sz' L' :: rs') q = if q = r then some (.row true sz' L') else newO base cs rs' q := by
             intro q
             by_cases e : q = r
             ·subst e; simp [newO, upd_same]
             ·simp [newO, upd_ne e, e]
            refine ⟨fun q => if q = r then T else Sf q, ?_, ?_, ?_⟩
            ·intro q hq
             by_cases hqr : q = r
             ·subst hqr
              simp only [if_true]
              exact ⟨sz', L, L', g, o, vs', ho', by rw [e, if_pos rfl], hl3, hl, t1, t2, t3, t4, hs1 _ t5, fun p hp => hs1 _ (t6 p hp)⟩
             ·simp only [hqr, if_false]
              have hq : M q := hq.resolve_left hqr
              obtain ⟨sz, L1, L2, g1, o1, vs1, b1, b2, b3, b4, b5, b6, b7, b8, b9, b10⟩ := k1 q hq
              exact ⟨sz, L1, L2, g1, o1, vs1, b1, by rw [e, if_neg hqr]; exact b2, b3, b4, b5, b6, b7, b8, hs2 _ b9, fun p hp => hs2 _ (b10 p hp)⟩
            ·intro q q' hq hq' hne p hp
             by_cases hqr : q = r
             ·subst hqr
              simp only [if_true] at hp
              have hq'r : q' ≠ q := fun e => hne e.symm
              simp only [hq'r, if_false]
              have hq' : M q' := hq'.resolve_left hq'r
              obtain ⟨sz, L1, L2, g1, o1, vs1, b1, b2, b3, b4, b5, b6, b7, b8, b9, b10⟩ := k1 q' hq'
              refine ⟨fun hp' => hd p (t6 p hp) (b10 p hp'), fun o2 ho2 => ?_⟩
              rw [b4] at ho2
              simp only [Option.some.injEq, Prod.mk.injEq] at ho2
              obtain ⟨rfl, _⟩ := ho2
              exact hd _ (t6 _ hp) b9
             ·simp only [hqr, if_false] at hp
              have hq : M q := hq.resolve_left hqr
              obtain ⟨sz, L1, L2, g1, o1, vs1, b1, b2, b3, b4, b5, b6, b7, b8, b9, b10⟩ := k1 q hq
              by_cases hq'r : q' = r
              ·subst hq'r
               simp only [if_true]
               refine ⟨fun hp' => hd p (t6 p hp') (b10 p hp), fun o2 ho2 => ?_⟩
               rw [hl] at ho2
               simp only [Option.some.injEq, Prod.mk.injEq] at ho2
               obtain ⟨rfl, _⟩ := ho2
               exact hd _ t5 (b10 _ hp)
              ·simp only [hq'r, if_false]
               exact k2 q q' hq (hq'.resolve_left hq'r) hne p hp
            ·intro q hq
             have hqr : q ≠ r := fun e => hq (.inl e)
             rw [e, if_neg hqr]
             exact k3 q (fun hm => hq (.inr hm))
     ·cases h1
    ·cases h1
   ·cases h1
  ·cases ht
end
end Go.Ab
