import Derived.Test.YtpnmhfbiaajaeaaGreatDoorA5
import Derived.Laws.MakeOwn
set_option linter.unusedVariables false
set_option linter.unusedSimpArgs false
namespace Go.Ab
open Go.RowKit
def cellsAV (s : St) : AV → Option (List AV)
 | .agg cs => some cs
 | .fn f cs => some [.fn f cs]
 | .sl r off len => match s.objs r with
  | some (.row _ _ _) => some [.sl r off len]
  | _ => none
 | .ptr r i f => if cel (s.objs r) = true then some [.ptr r i f] else none
 | .mp r => match s.objs r with
  | some (.map _) => some [.mp r]
  | _ => none
 | .val src v => match s.view (.val src v) with
  | some (src, .agg cs) => some (cs.map (mk src))
  | some (src, u) => some [mk src u]
  | none => none
 | _ => none
abbrev Objs := Nat → Option Root
def absorb1 (o : Objs) : AV → Option (V × Objs)
 | .val none v => if v.scalar = true then some (v, o) else none
 | .sl r off len => match o r with
  | some (.row true sz L) => some (.sl sz ((L.drop off).take len), upd o r (some .dead))
  | _ => none
 | _ => none
def absorbL (o : Objs) : List AV → Option (List V × Objs)
 | [] => some ([], o)
 | c :: cs => match absorb1 o c with
  | some (v, o1) => match absorbL o1 cs with
   | some (vs, o2) => some (v :: vs, o2)
   | none => none
  | none => none
def absorb (o : Objs) : AV → Option (V × Objs)
 | .agg cs => match absorbL o cs with
  | some (vs, o') => some (.agg vs, o')
  | none => none
 | .val none v => if v.plain = true then some (v, o) else none
 | c => absorb1 o c
def roL : List AV → Option (List V)
 | [] => some []
 | .val none v :: cs => if v.one = true then (match roL cs with
  | some vs => some (v :: vs)
  | none => none) else none
 | _ :: _ => none
def roMode : AV → Option V
 | .val none v => some v
 | .agg cs => (roL cs).map V.agg
 | .fn f [] => some (.fn f [])
 | _ => none
def elem (o : Objs) (c : AV) : Option (V × Bool × Objs) :=
 match absorb o c with
 | some (v, o') => some (v, true, o')
 | none => match roMode c with
  | some v => some (v, false, o)
  | none => none
def Env.all (E : Env) (g : Nat) : Prop := ∃ r, live (E.objs r) = true ∧ E.own r g
def Dies (o1 o2 : Objs) : Prop := ∀ r, o2 r = o1 r ∨ (o2 r = some .dead ∧ live (o1 r) = true)
theorem Dies.refl (o : Objs) : Dies o o := fun r => .inl rfl
theorem Dies.trans {o1 o2 o3 : Objs} (h : Dies o1 o2) (h' : Dies o2 o3) : Dies o1 o3 := by
 intro r
 rcases h' r with e | ⟨e, l⟩
 ·rcases h r with e' | ⟨e', l'⟩
  ·exact .inl (e.trans e')
  ·exact .inr ⟨e.trans e', l'⟩
 ·rcases h r with e' | ⟨e', l'⟩
  ·exact .inr ⟨e, by rw [← e']; exact l⟩
  ·rw [e'] at l; cases l
theorem Dies.live {o1 o2 : Objs} (h : Dies o1 o2) {r : Nat} (hl : live (o2 r) = true) : o2 r = o1 r ∧ Ab.live (o1 r) = true := by
 rcases h r with e | ⟨e, l⟩
 ·exact ⟨e, by rw [← e]; exact hl⟩
 ·rw [e] at hl; cases hl
def Gone (E : Env) (o2 : Objs) (g : Nat) : Prop := ∃ r, live (E.objs r) = true ∧ o2 r = some .dead ∧ E.own r g
section
variable {P : Program} {N : Fr} {w0 : Base} {D0 : BSet} {E : Env} {st : St} {a : Act} {w : World}
def Env.kill (E : Env) (o2 : Objs) : Env := { E with objs := o2, D := fun g => E.D g ∨ Gone E o2 g }
theorem kill_le (hg : Good w0 D0 E) {o2 : Objs} (hd : Dies E.objs o2) : E.Le (E.kill o2) := by
 refine ⟨fun g h => ⟨.inl h, rfl⟩, ?_, ?_⟩
 ·intro r hr hn
  rcases hd r with e | ⟨e, l⟩
  ·exact hr (e ▸ hn)
  ·have : o2 r = none := hn
   rw [e] at this; cases this
 ·intro r hr o' ho' hnd
  rcases hd r with e | ⟨e, l⟩
  ·have ho : E.objs r = some o' := by rw [← e]; exact ho'
   exact ⟨o', ho, rfl, fun g hg => ⟨.inl hg, rfl⟩, by cases o' <;> simp_all, fun g q _ cur e h => ⟨cur, e, h, rfl⟩⟩
  ·have : o2 r = some o' := ho'
   rw [e] at this
   simp only [Option.some.injEq] at this
   exact absurd this.symm hnd
theorem RootRep.le {E E' : Env} (hE : E.Le E') {r : Nat} {o : Root} (h : RootRep E r o) (hloc : E'.loc r = E.loc r) (hS : E'.S r = E.S r) (hw : ∀ g, E.own r g → E'.w.heap[g]? = E.w.heap[g]?) : RootRep E' r o := by
 cases o with
 | row own sz L =>
  simp only [RootRep, hloc] at h ⊢
  split
  ·rename_i hl; rw [hl] at h; exact h
  ·rename_i g q hl
   rw [hl] at h
   obtain ⟨vs, hb, hu, hr⟩ := h
   refine ⟨vs, hb.keep (hw g (.inr ⟨q, hl⟩)), hu, ?_⟩
   rw [hS]
   exact hr.keep hE.d (fun _ g hg => hw g (.inl hg))
 | box cs =>
  obtain ⟨g, cur, e, hl, hh, hr, h1⟩ := h
  exact ⟨g, cur, e, hloc.trans hl, (hw g (.inr ⟨0, hl⟩)).trans hh, hr.le hE, h1⟩
 | dead => trivial
 | map es =>
  obtain ⟨g, hl, hh⟩ := h
  exact ⟨g, hloc.trans hl, (hw g (.inr ⟨0, hl⟩)).trans hh⟩
theorem kill_good (hg : Good w0 D0 E) {o2 : Objs} (hd : Dies E.objs o2) : Good w0 D0 (E.kill o2) := by
 have hle := kill_le hg hd
 refine ⟨hg.below, ?_, fun g h => .inl (hg.d0 g h), ?_, ?_, ?_, ?_, hg.tabs.keep hle.d⟩
 ·rintro g (h | ⟨r, hl, _, ho⟩)
  ·exact hg.dIn g h
  ·obtain ⟨h1, h2, _⟩ := hg.ownIn r hl g ho
   exact ⟨h2, .inr h1⟩
 ·intro r o ho
  by_cases hdead : o = .dead
  ·subst hdead; trivial
  ·have hl : live (o2 r) = true := by
    have : o2 r = some o := ho
    rw [this]; cases o <;> first | rfl | exact absurd rfl hdead
   have := hd.live hl
   exact RootRep.le hle (hg.roots r o (by rw [← this.1]; exact ho)) rfl rfl (fun _ _ => rfl)
 ·intro r hl g ho
  obtain ⟨e, l⟩ := hd.live hl
  obtain ⟨h1, h2, h3⟩ := hg.ownIn r l g ho
  refine ⟨h1, h2, ?_⟩
  rintro (h | ⟨r', hl', hdead, ho'⟩)
  ·exact h3 h
  ·by_cases er : r = r'
   ·subst er
    have : live (o2 r) = true := hl
    rw [hdead] at this; cases this
   ·exact hg.apart r r' er l hl' g ho ho'
 ·intro r hl g q hq
  exact hg.ownS r (hd.live hl).2 g q hq
 ·intro r r' hne hl hl' g ho
  exact hg.apart r r' hne (hd.live hl).2 (hd.live hl').2 g ho
def Env.mkr (E : Env) (o2 : Objs) (w' : World) (D' : BSet) (id : Nat) (ob : Root) (l : Option (Nat × Nat)) (T : BSet) : Env :=
 { w := w', D := D', S := upd E.S id T, loc := upd E.loc id l, objs := upd o2 id (some ob) }
def Fresh (w0 : Base) (E : Env) (g : Nat) : Prop := w0.new g ∧ ∀ r, live (E.objs r) = true → ¬ E.own r g
theorem fresh_new (hg : Good w0 D0 E) {g : Nat} (h : E.w.heap.size ≤ g) : Fresh w0 E g :=
 ⟨.inl (Nat.le_trans hg.below.size h), fun r hl ho => by have := (hg.ownIn r hl g ho).2.1; omega⟩
structure MkOk (w0 : Base) (E : Env) (o2 : Objs) (w' : World) (D' : BSet) (id : Nat) (l : Option (Nat × Nat)) (T : BSet) : Prop where
 dies : Dies E.objs o2
 free : E.objs id = none
 dSub : ∀ g, E.D g → D' g
 dNew : ∀ g, D' g → E.D g ∨ Gone E o2 g ∨ (Fresh w0 E g ∧ g < w'.heap.size)
 own : ∀ g, (T g ∨ ∃ q, l = some (g, q)) → (Gone E o2 g ∨ Fresh w0 E g) ∧ g < w'.heap.size ∧ ¬ D' g
 ownS : ∀ g q, l = some (g, q) → ¬ T g
 below : Below E.w.heap.size E.w w' ∨ (∀ g, g < E.w.heap.size → (Gone E o2 g ∨ w'.heap[g]? = E.w.heap[g]?)) ∧ E.w.heap.size ≤ w'.heap.size ∧ w'.os = E.w.os ∧ w'.tape = E.w.tape ∧ w'.output = E.w.output ∧ (∀ (k : Nat) (cur : Array Value) (e : TypeId), E.w.heap[k]? = some (.cells cur e (0, 0)) → ∃ cur' e', w'.heap[k]? = some (.cells cur' e' (0, 0)) ∧ cur'.size = cur.size)
theorem mkr_keep (hg : Good w0 D0 E) {o2 : Objs} {w' : World} {D' : BSet} {id : Nat} {l : Option (Nat × Nat)} {T : BSet} (h : MkOk w0 E o2 w' D' id l T) :
  E.w.heap.size ≤ w'.heap.size ∧ Stays w0 w' ∧ (∀ g, E.D g → w'.heap[g]? = E.w.heap[g]?) ∧ (∀ r, live (o2 r) = true → ∀ g, E.own r g → w'.heap[g]? = E.w.heap[g]?) := by
 have hb : E.w.heap.size ≤ w'.heap.size ∧ w'.os = E.w.os ∧ w'.tape = E.w.tape ∧ w'.output = E.w.output ∧ (∀ g, g < E.w.heap.size → (Gone E o2 g ∨ w'.heap[g]? = E.w.heap[g]?)) ∧ (∀ (k : Nat) (cur : Array Value) (e : TypeId), E.w.heap[k]? = some (.cells cur e (0, 0)) → ∃ cur' e', w'.heap[k]? = some (.cells cur' e' (0, 0)) ∧ cur'.size = cur.size) := by
  rcases h.below with hb | ⟨h1, h2, h3, h4, h5, h6⟩
  ·exact ⟨hb.size, hb.os, hb.tape, hb.output, fun g hg => .inr (hb.block g hg), (stays_of_below (S := Emp) (x := w0.x) hb).held⟩
  ·exact ⟨h2, h3, h4, h5, h1, h6⟩
 obtain ⟨h2, h3, h4, h5, h1, h6⟩ := hb
 refine ⟨h2, ⟨h3.trans hg.below.os, h4.trans hg.below.tape, h5.trans hg.below.output, Nat.le_trans hg.below.size h2, ?_, ?_⟩, ?_, ?_⟩
 ·intro k hk hn
  rcases h1 k (Nat.lt_of_lt_of_le hk hg.below.size) with ⟨r, hl, _, ho⟩ | e
  ·rcases (hg.ownIn r hl k ho).1 with h | h
   ·omega
   ·exact absurd h hn
  ·exact e.trans (hg.below.block k hk hn)
 ·intro k cur e hc
  obtain ⟨c1, e1, k1, s1⟩ := hg.below.held k cur e hc
  obtain ⟨c2, e2, k2, s2⟩ := h6 k c1 e1 k1
  exact ⟨c2, e2, k2, s2.trans s1⟩
 ·intro g hgD
  rcases h1 g (hg.dIn g hgD).1 with ⟨r, hl, _, ho⟩ | e
  ·exact absurd hgD (hg.ownIn r hl g ho).2.2
  ·exact e
 ·intro r hl g ho
  have hl' := (h.dies.live hl).2
  rcases h1 g (hg.ownIn r hl' g ho).2.1 with ⟨r', hl2, hd, ho'⟩ | e
  ·by_cases er : r = r'
   ·subst er; rw [hd] at hl; cases hl
   ·exact absurd ho' (hg.apart r r' er hl' hl2 g ho)
  ·exact e
theorem mkr_le (hg : Good w0 D0 E) {o2 : Objs} {w' : World} {D' : BSet} {id : Nat} {ob : Root} {l : Option (Nat × Nat)} {T : BSet} (h : MkOk w0 E o2 w' D' id l T) : E.Le (E.mkr o2 w' D' id ob l T) := by
 obtain ⟨h2, _, hD, hO⟩ := mkr_keep hg h
 have hne : ∀ r, E.objs r ≠ none → r ≠ id := fun r hr e => hr (e ▸ h.free)
 refine ⟨fun g hgD => ⟨h.dSub g hgD, hD g hgD⟩, ?_, ?_⟩
 ·intro r hr
  simp only [Env.mkr]
  rw [upd_ne (hne r hr)]
  intro hn
  rcases h.dies r with e | ⟨e, _⟩
  ·exact hr (e ▸ hn)
  ·rw [e] at hn; cases hn
 ·intro r hr o' ho' hnd
  simp only [Env.mkr] at ho' ⊢
  rw [upd_ne (hne r hr)] at ho' ⊢
  rw [upd_ne (hne r hr)]
  have hl : live (o2 r) = true := by rw [ho']; cases o' <;> first | rfl | exact absurd rfl hnd
  obtain ⟨e, l'⟩ := h.dies.live hl
  refine ⟨o', by rw [← e]; exact ho', rfl, fun g hg' => ⟨.inl hg', hO r hl g (.inl hg')⟩, by cases o' <;> simp_all, ?_⟩
  intro g q hq cur e' hc
  exact ⟨cur, e', (hO r hl g (.inr ⟨q, hq⟩)).trans hc, rfl⟩
theorem mkr_good (hg : Good w0 D0 E) {o2 : Objs} {w' : World} {D' : BSet} {id : Nat} {ob : Root} {l : Option (Nat × Nat)} {T : BSet} (h : MkOk w0 E o2 w' D' id l T)
  (hr : RootRep (E.mkr o2 w' D' id ob l T) id ob) : Good w0 D0 (E.mkr o2 w' D' id ob l T) := by
 obtain ⟨h2, hB, hD, hO⟩ := mkr_keep hg h
 have hle := mkr_le (ob := ob) hg h
 have hlive : ∀ r, r ≠ id → live ((E.mkr o2 w' D' id ob l T).objs r) = true → live (o2 r) = true ∧ live (E.objs r) = true := by
  intro r hne hl
  simp only [Env.mkr] at hl
  rw [upd_ne hne] at hl
  exact ⟨hl, (h.dies.live hl).2⟩
 have hown : ∀ r, r ≠ id → ∀ g, (E.mkr o2 w' D' id ob l T).own r g → E.own r g := by
  intro r hne g ho
  simpa [Env.own, Env.mkr, upd_ne hne] using ho
 have hownId : ∀ g, (E.mkr o2 w' D' id ob l T).own id g → (T g ∨ ∃ q, l = some (g, q)) := by
  intro g ho
  simpa [Env.own, Env.mkr, upd_same] using ho
 refine ⟨hB, ?_, fun g hg' => h.dSub g (hg.d0 g hg'), ?_, ?_, ?_, ?_, hg.tabs.keep hle.d⟩
 ·intro g hg'
  rcases h.dNew g hg' with hd | ⟨r, hl, _, ho⟩ | ⟨h1, h3⟩
  ·obtain ⟨q1, q2⟩ := hg.dIn g hd
   exact ⟨Nat.lt_of_lt_of_le q1 h2, q2⟩
  ·obtain ⟨q1, q2, _⟩ := hg.ownIn r hl g ho
   exact ⟨Nat.lt_of_lt_of_le q2 h2, .inr q1⟩
  ·exact ⟨h3, .inr h1.1⟩
 ·intro r o ho
  by_cases e : r = id
  ·subst e
   simp only [Env.mkr, upd_same, Option.some.injEq] at ho
   subst ho
   exact hr
  ·by_cases hdead : o = .dead
   ·subst hdead; trivial
   ·have hl : live ((E.mkr o2 w' D' id ob l T).objs r) = true := by rw [ho]; cases o <;> first | rfl | exact absurd rfl hdead
    obtain ⟨l1, l2⟩ := hlive r e hl
    have ho' : E.objs r = some o := by
     rw [← (h.dies.live l1).1]
     simpa [Env.mkr, upd_ne e] using ho
    exact (hg.roots r o ho').le hle (by simp [Env.mkr, upd_ne e]) (by simp [Env.mkr, upd_ne e]) (fun g hg' => hO r l1 g hg')
 ·intro r hl g ho
  by_cases e : r = id
  ·subst e
   obtain ⟨q1, q2, q3⟩ := h.own g (hownId g ho)
   refine ⟨?_, q2, q3⟩
   rcases q1 with ⟨r', hl', _, ho'⟩ | q1
   ·exact (hg.ownIn r' hl' g ho').1
   ·exact q1.1
  ·obtain ⟨l1, l2⟩ := hlive r e hl
   have ho' := hown r e g ho
   obtain ⟨q1, q2, q3⟩ := hg.ownIn r l2 g ho'
   refine ⟨q1, Nat.lt_of_lt_of_le q2 h2, fun hd => ?_⟩
   rcases h.dNew g hd with hd | ⟨r', hl', hdd, ho''⟩ | ⟨h1, _⟩
   ·exact q3 hd
   ·by_cases er : r = r'
    ·subst er; rw [hdd] at l1; cases l1
    ·exact hg.apart r r' er l2 hl' g ho' ho''
   ·exact h1.2 r l2 ho'
 ·intro r hl g q hq
  by_cases e : r = id
  ·subst e
   simp only [Env.mkr, upd_same] at hq ⊢
   exact h.ownS g q hq
  ·obtain ⟨l1, l2⟩ := hlive r e hl
   simp only [Env.mkr, upd_ne e] at hq ⊢
   exact hg.ownS r l2 g q hq
 ·have cross : ∀ r, r ≠ id → live (o2 r) = true → live (E.objs r) = true → ∀ g, E.own r g → ¬ (T g ∨ ∃ q, l = some (g, q)) := by
   intro r e l1 l2 g ho hn
   obtain ⟨q1, _, _⟩ := h.own g hn
   rcases q1 with ⟨r', hl', hdd, ho'⟩ | q1
   ·by_cases er : r = r'
    ·subst er; rw [hdd] at l1; cases l1
    ·exact hg.apart r r' er l2 hl' g ho ho'
   ·exact q1.2 r l2 ho
  intro r r' hne hl hl' g ho ho'
  by_cases e : r = id
  ·have e' : r' ≠ id := fun h => hne (e.trans h.symm)
   obtain ⟨l1, l2⟩ := hlive r' e' hl'
   subst e
   exact cross r' e' l1 l2 g (hown r' e' g ho') (hownId g ho)
  ·obtain ⟨l1, l2⟩ := hlive r e hl
   by_cases e' : r' = id
   ·subst e'
    exact cross r e l1 l2 g (hown r e g ho) (hownId g ho')
   ·obtain ⟨l1', l2'⟩ := hlive r' e' hl'
    exact hg.apart r r' hne l2 l2' g (hown r e g ho) (hown r' e' g ho')
end
end Go.Ab
set_option linter.unusedVariables false
set_option linter.unusedSimpArgs false
namespace Go.Ab
open Go.RowKit
section
variable {P : Program} {N : Fr} {w0 : Base} {D0 : BSet} {E : Env} {st : St} {a : Act} {w : World}
def Between (E : Env) (o1 o2 : Objs) (g : Nat) : Prop := ∃ r, live (o1 r) = true ∧ o2 r = some .dead ∧ E.own r g
theorem AvRep.sl_one {r off len : Nat} {x : Value} (h : AvRep E (.sl r off len) x) {own sz L} (ho : E.objs r = some (.row own sz L)) : x.oneCell' = true := by
 cases h with
 | sl hr h =>
  obtain ⟨_, hat⟩ := h _ _ _ ho
  unfold SlAt at hat
  split at hat
  ·obtain ⟨⟨ad, rfl⟩, _⟩ := hat; rfl
  ·obtain ⟨ad, c, rfl, _⟩ := hat; rfl
theorem AvRep.ptr_one {r i f : Nat} {x : Value} (h : AvRep E (.ptr r i f) x) (hl : cel (E.objs r) = true) : x.oneCell' = true := by
 cases h with
 | ptrRow hr h h' =>
  obtain ⟨ob, ho, hnd, hnm⟩ := cel_some hl
  cases ob with
  | row own sz L => obtain ⟨_, g, q, _, rfl⟩ := h _ _ _ ho; rfl
  | box cs => obtain ⟨_, g, _, rfl⟩ := h' _ ho; rfl
  | dead => exact absurd rfl hnd
  | map es => exact absurd rfl (hnm es)
theorem one_cells {x : Value} (h : x.oneCell' = true) : x.cells = #[x] := by cases x <;> simp_all [Value.oneCell', Value.cells]
theorem mks_rep (hE : SimE N w0 D0 E st a w) {src : Option Nat} (hs : SrcOk E src) : ∀ {cs : List V} {vs : List Value}, Reps w (Dof E src) false cs vs Emp → (∀ c ∈ cs, V.one c = true) → AvReps E (cs.map (mk src)) vs ∧ ∀ v ∈ vs, v.oneCell' = true
 | [], vs, h, _ => by cases h; exact ⟨.nil, by simp⟩
 | c :: cs, _, .cons h1 h2 _ s1 s2, hone => by
  obtain ⟨q1, q2⟩ := mks_rep hE hs (h2.wide s2) (fun c hc => hone c (by simp [hc]))
  refine ⟨.cons (mk_rep hE (h1.wide s1) hs) q1, ?_⟩
  intro v hv
  rcases List.mem_cons.1 hv with rfl | hv
  ·exact h1.oneCell (hone c (by simp))
  ·exact q2 v hv
theorem cellsAV_rep (hE : SimE N w0 D0 E st a w) {c : AV} {x : Value} (h : AvRep E c x) {cs : List AV} (hc : cellsAV st c = some cs) : AvReps E cs x.cells.toList ∧ ∀ v ∈ x.cells.toList, v.oneCell' = true := by
 have eo := hE.eo
 have single : x.oneCell' = true → AvReps E [c] x.cells.toList ∧ ∀ v ∈ x.cells.toList, v.oneCell' = true := by
  intro h1
  rw [one_cells h1]
  exact ⟨.cons h .nil, by simpa using h1⟩
 unfold cellsAV at hc
 split at hc
 ·simp only [Option.some.injEq] at hc; subst hc
  cases h with
  | agg h1 h => exact ⟨by simpa [Value.cells] using h, by simpa [Value.cells] using h1⟩
 ·simp only [Option.some.injEq] at hc; subst hc
  exact single (by cases h; rfl)
 ·split at hc
  ·rename_i own sz L ho
   simp only [Option.some.injEq] at hc; subst hc
   exact single (h.sl_one (by rw [eo]; exact ho))
  ·cases hc
 ·split at hc
  ·rename_i hl
   simp only [Option.some.injEq] at hc; subst hc
   exact single (h.ptr_one (by rw [eo]; exact hl))
  ·cases hc
 ·split at hc
  ·rename_i es ho
   simp only [Option.some.injEq] at hc; subst hc
   refine single ?_
   cases h with
   | mp hr h =>
    obtain ⟨g, _, rfl⟩ := h es (by rw [eo]; exact ho)
    rfl
  ·cases hc
 ·rename_i src v
  split at hc
  ·rename_i src' cs' hv
   simp only [Option.some.injEq] at hc; subst hc
   obtain ⟨hr, hs⟩ := view_rep hE h hv
   cases hr with
   | agg h1 hr =>
    have := mks_rep hE hs hr h1
    simpa [Value.cells] using this
  ·rename_i src' u hna hv
   simp only [Option.some.injEq] at hc; subst hc
   obtain ⟨hr, hs⟩ := view_rep hE h hv
   have h1 : V.one u = true := by cases u <;> first | rfl | (exfalso; exact hna _ rfl)
   have hx := hr.oneCell h1
   rw [one_cells hx]
   exact ⟨.cons (mk_rep hE hr hs) .nil, by simpa using hx⟩
  ·cases hc
 ·cases hc
theorem row_part (hg : Good w0 D0 E) {r off len sz : Nat} {L : List V} {x : Value} (h : AvRep E (.sl r off len) x) (ho : E.objs r = some (.row true sz L)) :
  Rep E.w E.D true (.sl sz ((L.drop off).take len)) x (E.own r) := by
 cases h with
 | sl hr h =>
  obtain ⟨hle, hat⟩ := h _ _ _ ho
  have hroot := hg.roots r _ ho
  unfold SlAt at hat
  split at hat
  ·rename_i hl
   obtain ⟨⟨ad, rfl⟩, rfl⟩ := hat
   simp only [List.take_zero]
   exact .nil _
  ·rename_i g o hl
   obtain ⟨ad, c, rfl, hlc, hm, h1, h2, htt, cur, e, hh, hs⟩ := hat
   simp only [RootRep, hl] at hroot
   obtain ⟨vs, hb, hu, hrr⟩ := hroot
   have hlen : ((L.drop off).take len).length = len := by simp; omega
   have hnS := hg.ownS r (live_row ho) g o hl
   by_cases hc : c = 0
   ·have hl0 : len = 0 := by omega
    subst hc
    subst hl0
    simp only [List.take_zero]
    rcases h2 rfl with rfl | ⟨o', rfl⟩
    ·exact .nil _
    ·have := Rep.slow (S := E.own r) (T := E.S r) (sz := sz) (L := []) (c := 0) (vs := []) (off := o') (g := g) (w := E.w) (D := E.D) (.inr ⟨o, hl⟩) (fun x hx => .inl hx) hnS ⟨cur, e, hh, by simp⟩ (by intro x hx; simp at hx) (by simpa using Reps.nil) (by simp) hm ⟨cur, e, hh, by simp⟩
     simpa using this
   ·obtain rfl := h1 hc
    have hs := hs hc
    have := Rep.slow (S := E.own r) (T := E.S r) (sz := sz) (L := (L.drop off).take len) (c := c) (vs := (vs.drop (off * sz)).take (len * sz)) (off := o + off * sz) (g := g) (w := E.w) (D := E.D) (.inr ⟨o, hl⟩) (fun x hx => .inl hx) hnS
     (by
      obtain ⟨cur', e', b1, b2⟩ := hb
      refine ⟨cur', e', b1, fun j u hj => ?_⟩
      rw [List.getElem?_take] at hj
      split at hj
      ·rw [List.getElem?_drop] at hj
       rw [Nat.add_assoc]
       exact b2 _ u hj
      ·cases hj)
     hu.drop.take (by rw [mul_take_blk hu.drop, mul_drop_blk hu]; exact (hrr.drop _).take _) (by rw [hlen]; exact hlc) hm
     ⟨cur, e, hh, fun _ => by rw [Nat.add_mul] at hs; omega⟩
    rw [hlen] at this
    exact this
theorem scalar_one {v : V} (h : v.scalar = true) : v.one = true := by cases v <;> simp_all [V.scalar, V.one]
theorem dies_upd {o : Objs} {r : Nat} (h : Ab.live (o r) = true) : Dies o (Ab.upd o r (some .dead)) := by
 intro r'
 by_cases e : r' = r
 ·subst e; exact .inr ⟨upd_same _ _ _, h⟩
 ·exact .inl (upd_ne e)
theorem absorb1_rep (hg : Good w0 D0 E) {o1 o2 : Objs} (hd : Dies E.objs o1) {c : AV} {x : Value} (h : AvRep E c x) {v : V} (ha : absorb1 o1 c = some (v, o2)) :
  Dies o1 o2 ∧ v.one = true ∧ ∃ T, Rep E.w E.D true v x T ∧ ∀ g, T g → Between E o1 o2 g := by
 unfold absorb1 at ha
 split at ha
 ·split at ha
  ·rename_i hs
   simp only [Option.some.injEq, Prod.mk.injEq] at ha
   obtain ⟨rfl, rfl⟩ := ha
   cases h with
   | val0 h => exact ⟨Dies.refl _, scalar_one hs, Emp, scalar_any h hs, fun _ h => h.elim⟩
  ·cases ha
 ·split at ha
  ·rename_i _ r off len _ sz L ho
   simp only [Option.some.injEq, Prod.mk.injEq] at ha
   obtain ⟨rfl, rfl⟩ := ha
   have hl : live (o1 r) = true := by rw [ho]; rfl
   obtain ⟨e, _⟩ := hd.live hl
   refine ⟨dies_upd hl, rfl, E.own r, row_part hg h (by rw [← e]; exact ho), fun g hg' => ⟨r, hl, upd_same _ _ _, hg'⟩⟩
  ·cases ha
 ·cases ha
theorem absorbL_rep (hg : Good w0 D0 E) : ∀ {cs : List AV} {o1 o2 : Objs} (hd : Dies E.objs o1) {xs : List Value} (h : AvReps E cs xs) {vs : List V} (ha : absorbL o1 cs = some (vs, o2)),
  Dies o1 o2 ∧ (∀ v ∈ vs, V.one v = true) ∧ ∃ T, Reps E.w E.D true vs xs T ∧ ∀ g, T g → Between E o1 o2 g
 | [], o1, o2, hd, xs, h, vs, ha => by
  simp only [absorbL, Option.some.injEq, Prod.mk.injEq] at ha
  obtain ⟨rfl, rfl⟩ := ha
  cases h
  exact ⟨Dies.refl _, by simp, Emp, .nil, fun _ h => h.elim⟩
 | c :: cs, o1, o2, hd, _, .cons h hs, vs, ha => by
  simp only [absorbL] at ha
  split at ha
  ·rename_i v o3 h1
   split at ha
   ·rename_i vs' o4 h2
    simp only [Option.some.injEq, Prod.mk.injEq] at ha
    obtain ⟨rfl, rfl⟩ := ha
    obtain ⟨d1, one1, T1, r1, b1⟩ := absorb1_rep hg hd h h1
    obtain ⟨d2, one2, T2, r2, b2⟩ := absorbL_rep hg (hd.trans d1) hs h2
    have up1 : ∀ g, Between E o1 o3 g → Between E o1 o4 g := by
     rintro g ⟨r, l, hdd, ho⟩
     refine ⟨r, l, ?_, ho⟩
     rcases d2 r with e | ⟨e, _⟩
     ·rw [e]; exact hdd
     ·exact e
    have up2 : ∀ g, Between E o3 o4 g → Between E o1 o4 g := by
     rintro g ⟨r, l, hdd, ho⟩
     exact ⟨r, (d1.live l).2, hdd, ho⟩
    refine ⟨d1.trans d2, ?_, fun g => T1 g ∨ T2 g, .cons r1 r2 ?_ (fun g h => .inl h) (fun g h => .inr h), ?_⟩
    ·intro u hu
     rcases List.mem_cons.1 hu with rfl | hu
     ·exact one1
     ·exact one2 u hu
    ·intro g t1 t2
     obtain ⟨r, l, hdd, ho⟩ := b1 g t1
     obtain ⟨r', l', hdd', ho'⟩ := b2 g t2
     by_cases e : r = r'
     ·subst e; rw [hdd] at l'; cases l'
     ·exact hg.apart r r' e (hd.live l).2 (hd.live (d1.live l').2).2 g ho ho'
    ·rintro g (t | t)
     ·exact up1 g (b1 g t)
     ·exact up2 g (b2 g t)
   ·cases ha
  ·cases ha
theorem absorb_rep (hg : Good w0 D0 E) {o1 o2 : Objs} (hd : Dies E.objs o1) {c : AV} {x : Value} (h : AvRep E c x) {v : V} (ha : absorb o1 c = some (v, o2)) :
  Dies o1 o2 ∧ ∃ T, Rep E.w E.D true v x T ∧ ∀ g, T g → Between E o1 o2 g := by
 unfold absorb at ha
 split at ha
 ·split at ha
  ·rename_i vs o' h1
   simp only [Option.some.injEq, Prod.mk.injEq] at ha
   obtain ⟨rfl, rfl⟩ := ha
   cases h with
   | agg k1 h =>
    obtain ⟨d, one, T, r, b⟩ := absorbL_rep hg hd h h1
    exact ⟨d, T, .agg one r, b⟩
  ·cases ha
 ·split at ha
  ·rename_i hp
   simp only [Option.some.injEq, Prod.mk.injEq] at ha
   obtain ⟨rfl, rfl⟩ := ha
   cases h with
   | val0 h => exact ⟨Dies.refl _, Emp, plain_any h hp, fun _ h => h.elim⟩
  ·cases ha
 ·obtain ⟨d, _, T, r, b⟩ := absorb1_rep hg hd h ha
  exact ⟨d, T, r, b⟩
theorem roL_rep : ∀ {cs : List AV} {xs : List Value} (h : AvReps E cs xs) {vs : List V} (ha : roL cs = some vs), (∀ v ∈ vs, V.one v = true) ∧ Reps E.w E.D false vs xs Emp
 | [], xs, h, vs, ha => by
  simp only [roL, Option.some.injEq] at ha
  subst ha
  cases h
  exact ⟨by simp, .nil⟩
 | c :: cs, _, .cons h hs, vs, ha => by
  unfold roL at ha
  split at ha
  ·rename_i hnil
   cases hnil
  ·rename_i v cs' hcs
   simp only [List.cons.injEq] at hcs
   obtain ⟨rfl, rfl⟩ := hcs
   split at ha
   ·rename_i h1
    split at ha
    ·rename_i vs' h2
     simp only [Option.some.injEq] at ha
     subst ha
     obtain ⟨one, r⟩ := roL_rep hs h2
     cases h with
     | val0 h =>
      refine ⟨?_, .cons h r (fun _ h => h.elim) (fun _ h => h) (fun _ h => h)⟩
      intro u hu
      rcases List.mem_cons.1 hu with rfl | hu
      ·exact h1
      ·exact one u hu
    ·cases ha
   ·cases ha
  ·cases ha
theorem roMode_rep {c : AV} {x : Value} (h : AvRep E c x) {v : V} (ha : roMode c = some v) : Rep E.w E.D false v x Emp := by
 unfold roMode at ha
 split at ha
 ·simp only [Option.some.injEq] at ha; subst ha
  cases h with
  | val0 h => exact h
 ·obtain ⟨vs, hvs, rfl⟩ := Option.map_eq_some_iff.1 ha
  cases h with
  | agg h1 h =>
   obtain ⟨one, r⟩ := roL_rep h hvs
   exact .agg one r
 ·simp only [Option.some.injEq] at ha; subst ha
  cases h with
  | fn h => cases h; exact .fn .nil
 ·cases ha
theorem elem_rep (hg : Good w0 D0 E) {o1 o2 : Objs} (hd : Dies E.objs o1) {c : AV} {x : Value} (h : AvRep E c x) {v : V} {fl : Bool} (ha : elem o1 c = some (v, fl, o2)) :
  Dies o1 o2 ∧ ∃ T, Rep E.w E.D fl v x T ∧ (∀ g, T g → Between E o1 o2 g) ∧ (fl = false → o2 = o1) := by
 unfold elem at ha
 split at ha
 ·rename_i v' o' h1
  simp only [Option.some.injEq, Prod.mk.injEq] at ha
  obtain ⟨rfl, rfl, rfl⟩ := ha
  obtain ⟨d, T, r, b⟩ := absorb_rep hg hd h h1
  exact ⟨d, T, r, b, by simp⟩
 ·split at ha
  ·rename_i v' h1
   simp only [Option.some.injEq, Prod.mk.injEq] at ha
   obtain ⟨rfl, rfl, rfl⟩ := ha
   exact ⟨Dies.refl _, Emp, roMode_rep h h1, fun _ h => h.elim, fun _ => rfl⟩
  ·cases ha
end
end Go.Ab
set_option linter.unusedVariables false
set_option linter.unusedSimpArgs false
namespace Go.Ab
open Go.RowKit
inductive FO where
 | box (x : X)
 | alloc (zs : List (V × Nat × Bool))
 | bld (zs : List (V × Nat × Bool)) (ps : List (Nat × Nat × X))
 | nilrow (sz : Nat)
 | nilof (x : X) (sz : Nat)
 | bsl (sz : Nat) (xs : List X)
 | bslp (sz : Nat) (xs : List X)
 | mks (sz bytes : Nat) (z : V) (l c : X)
 | app (x y : X) (sz bytes : Nat) (mv : Bool)
 | st (x v : X) (n : Nat)
 | clr (x : X) (z : V) (sz : Nat)
 | mkm
 | mpu (kd : Nat) (x k v : X)
 | men (kd : Nat) (x k : X) (z : Sc)
 | mes (x s v : X)
 | bsle (sz : Nat)
 | app0 (x y : X) (sz bytes : Nat)
 deriving Inhabited
def zc1 (id : Nat) (o : Objs) : V × Nat × Bool → AV × Objs × Nat
 | (_, _, true) => (.bad, o, id)
 | (v, sz, false) => match v with
  | .sl 0 [] => (.sl id 0 0, upd o id (some (.row true sz [])), id + 1)
  | v => (.val none v, o, id)
def zcells (id : Nat) (o : Objs) : List (V × Nat × Bool) → List AV × Objs
 | [] => ([], o)
 | z :: zs => let p := zc1 id o z; let r := zcells p.2.2 p.2.1 zs; (p.1 :: r.1, r.2)
def elemP : AV → Option (V × Bool)
 | .val none v => some (v, v.plain)
 | .agg cs => match roL cs with
  | some vs => some (.agg vs, vs.all V.scalar)
  | none => none
 | .fn f [] => some (.fn f [], false)
 | _ => none
def elemsP : List AV → Option (List V × Bool)
 | [] => some ([], true)
 | c :: cs => match elemP c, elemsP cs with
  | some (v, f), some (vs, f') => some (v :: vs, f && f')
  | _, _ => none
theorem absorbL_ro : ∀ {cs : List AV} {vs : List V} (h : roL cs = some vs) (o : Objs), absorbL o cs = if vs.all V.scalar = true then some (vs, o) else none
 | [], vs, h, o => by simp only [roL, Option.some.injEq] at h; subst h; rfl
 | .val none v :: cs, vs, h, o => by
  simp only [roL] at h
  split at h
  ·split at h
   ·rename_i ws hws
    simp only [Option.some.injEq] at h; subst h
    simp only [absorbL, absorb1]
    by_cases hv : v.scalar = true
    ·simp only [hv, if_true, absorbL_ro hws o, List.all_cons, Bool.true_and]
     by_cases ha : ws.all V.scalar = true
     ·simp [ha]
     ·simp [ha]
    ·simp [hv]
   ·cases h
  ·cases h
 | .val (some _) _ :: _, vs, h, o => by simp [roL] at h
 | .sl _ _ _ :: _, vs, h, o => by simp [roL] at h
 | .ptr _ _ _ :: _, vs, h, o => by simp [roL] at h
 | .agg _ :: _, vs, h, o => by simp [roL] at h
 | .tup _ :: _, vs, h, o => by simp [roL] at h
 | .fn _ _ :: _, vs, h, o => by simp [roL] at h
 | .bad :: _, vs, h, o => by simp [roL] at h
 | .ub :: _, vs, h, o => by simp [roL] at h
 | .e0 :: _, vs, h, o => by simp [roL] at h
 | .mp _ :: _, vs, h, o => by simp [roL] at h
theorem elemP_elem {c : AV} {v : V} {f : Bool} (h : elemP c = some (v, f)) (o : Objs) : elem o c = some (v, f, o) := by
 unfold elemP at h
 split at h
 ·rename_i u
  simp only [Option.some.injEq, Prod.mk.injEq] at h
  obtain ⟨rfl, rfl⟩ := h
  unfold elem absorb
  by_cases hp : u.plain = true
  ·simp [hp]
  ·simp [hp, roMode]
 ·split at h
  ·rename_i cs vs hr
   simp only [Option.some.injEq, Prod.mk.injEq] at h
   obtain ⟨rfl, rfl⟩ := h
   unfold elem absorb
   simp only [absorbL_ro hr o]
   by_cases ha : vs.all V.scalar = true
   ·simp [ha]
   ·simp [ha, roMode, hr]
  ·cases h
 ·simp only [Option.some.injEq, Prod.mk.injEq] at h
  obtain ⟨rfl, rfl⟩ := h
  rfl
 ·cases h
def elems (o : Objs) : List AV → Option (List V × Bool × Objs)
 | [] => some ([], true, o)
 | c :: cs => match elem o c with
  | some (v, f, o1) => match elems o1 cs with
   | some (vs, f', o2) => some (v :: vs, f && f', o2)
   | none => none
  | none => none
theorem elemsP_elems : ∀ {cs : List AV} {vs : List V} {f : Bool} (h : elemsP cs = some (vs, f)) (o : Objs), elems o cs = some (vs, f, o)
 | [], vs, f, h, o => by
  simp only [elemsP, Option.some.injEq, Prod.mk.injEq] at h
  obtain ⟨rfl, rfl⟩ := h
  rfl
 | c :: cs, vs, f, h, o => by
  simp only [elemsP] at h
  split at h
  ·rename_i h1 h2
   simp only [Option.some.injEq, Prod.mk.injEq] at h
   obtain ⟨rfl, rfl⟩ := h
   simp only [elems, elemP_elem h1 o, elemsP_elems h2 o]
  ·cases h
section
variable {P : Program} {N : Fr} {w0 : Base} {D0 : BSet} {E : Env} {st : St} {a : Act} {w : World}
def Out (P : Program) (w0 : Base) (D0 : BSet) (E : Env) (a : Act) (w : World) (o : Oper) (av : AV) (ob : Objs) : Prop :=
 ∃ w' E', E.Le E' ∧ Good w0 D0 E' ∧ E'.w = w' ∧ E'.objs = ob ∧
  ((∃ v, (execOp a.eval o).run P w = .ok (.value v) w' ∧ AvRep E' av v) ∨ ((execOp a.eval o).run P w = .ok .skip w' ∧ av = .undef))
theorem Env.Le.trans {E1 E2 E3 : Env} (h1 : E1.Le E2) (h2 : E2.Le E3) : E1.Le E3 := by
 refine ⟨fun g hg => ⟨(h2.d g (h1.d g hg).1).1, (h2.d g (h1.d g hg).1).2.trans (h1.d g hg).2⟩, fun r hr => h2.known r (h1.known r hr), ?_⟩
 intro r hr o' ho' hnd
 obtain ⟨o2, ho2, hl2, hS2, hsh2, hb2⟩ := h2.old r (h1.known r hr) o' ho' hnd
 have hnd2 : o2 ≠ .dead := by rintro rfl; cases o' <;> exact hsh2.elim
 obtain ⟨o1, ho1, hl1, hS1, hsh1, hb1⟩ := h1.old r hr o2 ho2 hnd2
 refine ⟨o1, ho1, hl2.trans hl1, ?_, ?_, ?_⟩
 ·intro g hg
  obtain ⟨q1, q2⟩ := hS1 g hg
  rcases q1 with q1 | q1
  ·exact ⟨(hS2 g q1).1, (hS2 g q1).2.trans q2⟩
  ·exact ⟨.inr (h2.d g q1).1, (h2.d g q1).2.trans q2⟩
 ·cases o1 <;> cases o2 <;> cases o' <;> simp_all
 ·intro g q hq cur e hc
  obtain ⟨cur2, e2, hc2, hs2⟩ := hb1 g q hq cur e hc
  obtain ⟨cur3, e3, hc3, hs3⟩ := hb2 g q (hl1.trans hq) cur2 e2 hc2
  exact ⟨cur3, e3, hc3, hs3.trans hs2⟩
theorem heap_new (w : World) (o : Obj) : (w.alloc o).heap[w.heap.size]? = some o := heap_alloc_new w o
theorem below_alloc' (w : World) (o : Obj) : Below w.heap.size w (w.alloc o) := (Below.refl _ _).alloc (Nat.le_refl _) o
theorem below_drew' (w : World) : Below w.heap.size w w.drew := (Below.refl _ _).drew
theorem mk_nil (hg : Good w0 D0 E) {id sz : Nat} (hf : E.objs id = none) (ad : Option Addr) :
  ∃ E', E.Le E' ∧ Good w0 D0 E' ∧ E'.w = E.w ∧ E'.objs = upd E.objs id (some (.row true sz [])) ∧ AvRep E' (.sl id 0 0) (.slice ad 0 0) := by
 have hm : MkOk w0 E E.objs E.w E.D id none Emp := ⟨Dies.refl _, hf, fun g h => h, fun g h => .inl h, (fun g h => by rcases h with h | ⟨q, h⟩ <;> cases h), (fun g q h => by cases h), .inl (Below.refl _ _)⟩
 refine ⟨E.mkr E.objs E.w E.D id (.row true sz []) none Emp, mkr_le hg hm, mkr_good hg hm (by simp [RootRep, Env.mkr, upd_same]), rfl, rfl, .sl (by simp [Env.mkr, upd_same]) ?_⟩
 intro own sz' L ho
 simp only [Env.mkr, upd_same, Option.some.injEq, Root.row.injEq] at ho
 obtain ⟨rfl, rfl, rfl⟩ := ho
 exact ⟨by simp, by simp [SlAt, Env.mkr, upd_same]⟩
theorem mk_box (hg : Good w0 D0 E) {id : Nat} (hf : E.objs id = none) {cs : List AV} {vs : List Value} (h : AvReps E cs vs) (h1 : ∀ v ∈ vs, v.oneCell' = true) (e : TypeId) :
  ∃ E', E.Le E' ∧ Good w0 D0 E' ∧ E'.w = E.w.alloc (.cells vs.toArray e) ∧ E'.objs = upd E.objs id (some (.box cs)) ∧ AvRep E' (.ptr id 0 0) (.pointer (some ⟨E.w.heap.size, 0, none⟩)) := by
 have hm : MkOk w0 E E.objs (E.w.alloc (.cells vs.toArray e)) E.D id (some (E.w.heap.size, 0)) Emp :=
  ⟨Dies.refl _, hf, fun g h => h, fun g h => .inl h, (fun g h => by
   rcases h with h | ⟨q, h⟩
   ·cases h
   ·simp only [Option.some.injEq, Prod.mk.injEq] at h
    obtain ⟨rfl, rfl⟩ := h
    exact ⟨.inr (fresh_new hg (Nat.le_refl _)), by simp, fun hd => Nat.lt_irrefl _ (hg.dIn _ hd).1⟩), (fun g q _ h => h), .inl (below_alloc' _ _)⟩
 have hle := mkr_le (ob := .box cs) hg hm
 refine ⟨E.mkr E.objs (E.w.alloc (.cells vs.toArray e)) E.D id (.box cs) (some (E.w.heap.size, 0)) Emp, hle, mkr_good hg hm ?_, rfl, rfl, .ptrRow (by simp [Env.mkr, upd_same]) ?_ ?_⟩
 ·exact ⟨E.w.heap.size, vs.toArray, e, by simp [Env.mkr, upd_same], heap_new _ _, by simpa using h.le hle, by simpa using h1⟩
 ·intro own sz L ho
  simp only [Env.mkr, upd_same, Option.some.injEq] at ho
  cases ho
 ·intro cs' ho
  exact ⟨rfl, E.w.heap.size, by simp [Env.mkr, upd_same], rfl⟩
theorem mk_row (hg : Good w0 D0 E) {o2 : Objs} (hd : Dies E.objs o2) {id sz : Nat} (hf : E.objs id = none) {fl : Bool} {L : List V} {vs : List Value} {T : BSet}
  (h : Reps E.w (fun g => E.D g ∨ (fl = false ∧ Gone E o2 g)) fl (L.flatMap V.cells) vs T) (hT : fl = true → ∀ g, T g → Gone E o2 g) (hu : Uni sz L) {w' : World} {cur : Array Value} {e : TypeId}
  (hw : w' = E.w.alloc (.cells cur e) ∨ w' = E.w.drew.alloc (.cells cur e)) (hc : ∀ (j : Nat) (u : Value), vs[j]? = some u → cur[j]? = some u) (h1 : ∀ v ∈ vs, v.oneCell' = true) {c : Nat} (hlc : L.length ≤ c) (hm : c ≤ maxLen) (hs : c ≠ 0 → c * sz ≤ cur.size) :
  ∃ E', E.Le E' ∧ Good w0 D0 E' ∧ E'.w = w' ∧ E'.objs = upd o2 id (some (.row fl sz L)) ∧ AvRep E' (.sl id 0 L.length) (.slice (some ⟨E.w.heap.size, 0, none⟩) L.length c) := by
 have hsize : w'.heap.size = E.w.heap.size + 1 := by rcases hw with rfl | rfl <;> simp
 have hnew : w'.heap[E.w.heap.size]? = some (.cells cur e (0, 0)) := by
  rcases hw with rfl | rfl
  ·exact heap_new _ _
  ·exact heap_new E.w.drew _
 have hbel : Below E.w.heap.size E.w w' := by
  rcases hw with rfl | rfl
  ·exact below_alloc' _ _
  ·exact (below_drew' _).alloc (Nat.le_refl _) _
 have hm' : MkOk w0 E o2 w' (fun g => E.D g ∨ (fl = false ∧ Gone E o2 g)) id (some (E.w.heap.size, 0)) (fun g => fl = true ∧ T g) := by
  refine ⟨hd, hf, fun g h => .inl h, ?_, ?_, ?_, .inl hbel⟩
  ·rintro g (h | ⟨_, h⟩)
   ·exact .inl h
   ·exact .inr (.inl h)
  ·intro g hgo
   rcases hgo with ⟨hfl, ht⟩ | ⟨q, hq⟩
   ·have hgone := hT hfl g ht
    obtain ⟨r, hl, _, ho⟩ := hgone
    obtain ⟨q1, q2, q3⟩ := hg.ownIn r hl g ho
    refine ⟨.inl (hT hfl g ht), by omega, ?_⟩
    rintro (h | ⟨h, _⟩)
    ·exact q3 h
    ·rw [hfl] at h; cases h
   ·simp only [Option.some.injEq, Prod.mk.injEq] at hq
    obtain ⟨rfl, rfl⟩ := hq
    refine ⟨.inr (fresh_new hg (Nat.le_refl _)), by omega, ?_⟩
    rintro (h | ⟨_, r, hl, _, ho⟩)
    ·exact Nat.lt_irrefl _ (hg.dIn _ h).1
    ·exact Nat.lt_irrefl _ (hg.ownIn r hl _ ho).2.1
  ·intro g q hq ⟨hfl, ht⟩
   simp only [Option.some.injEq, Prod.mk.injEq] at hq
   obtain ⟨rfl, rfl⟩ := hq
   obtain ⟨r, hl, _, ho⟩ := hT hfl _ ht
   exact Nat.lt_irrefl _ (hg.ownIn r hl _ ho).2.1
 obtain ⟨hsz2, _, hkD, hkO⟩ := mkr_keep hg hm'
 refine ⟨E.mkr o2 w' _ id (.row fl sz L) (some (E.w.heap.size, 0)) _, mkr_le hg hm', mkr_good hg hm' ?_, rfl, rfl, .sl (by simp [Env.mkr, upd_same]) ?_⟩
 ·simp only [RootRep, Env.mkr, upd_same]
  refine ⟨vs, ⟨cur, e, hnew, fun j u hj => by rw [Nat.zero_add]; exact hc j u hj⟩, hu, ?_⟩
  have hk : ∀ g, g < E.w.heap.size → w'.heap[g]? = E.w.heap[g]? := fun g hg' => hbel.block g hg'
  have h' : Reps w' (fun g => E.D g ∨ (fl = false ∧ Gone E o2 g)) fl (L.flatMap V.cells) vs T := by
   refine h.keep ?_ ?_
   ·rintro g (hg' | ⟨hf', hg'⟩)
    ·exact ⟨.inl hg', hk g (hg.dIn g hg').1⟩
    ·obtain ⟨r, hl, hdd, ho⟩ := hg'
     exact ⟨.inr ⟨hf', r, hl, hdd, ho⟩, hk g (hg.ownIn r hl g ho).2.1⟩
   ·intro hfl g ht
    obtain ⟨r, hl, hdd, ho⟩ := hT hfl g ht
    exact hk g (hg.ownIn r hl g ho).2.1
  cases fl with
  | true => exact h'.wide (fun g hg' => ⟨rfl, hg'⟩)
  | false => exact h'.ro
 ·intro own sz' L' ho
  simp only [Env.mkr, upd_same, Option.some.injEq, Root.row.injEq] at ho
  obtain ⟨rfl, rfl, rfl⟩ := ho
  refine ⟨by simp, ?_⟩
  simp only [SlAt, Env.mkr, upd_same]
  exact ⟨_, c, rfl, hlc, hm, fun _ => by simp, fun _ => .inr ⟨0, rfl⟩, by omega, cur, e, hnew, fun hne => by simpa using hs hne⟩
theorem elems_rep (hg : Good w0 D0 E) : ∀ {cs : List AV} {o1 o2 : Objs} (hd : Dies E.objs o1) {xs : List Value} (h : AvReps E cs xs) {L : List V} {fl : Bool} (ha : elems o1 cs = some (L, fl, o2)),
  Dies o1 o2 ∧ L.length = xs.length ∧ (∀ (i : Nat) (v : V) (x : Value), L[i]? = some v → xs[i]? = some x → v.cells.length = x.cells.size) ∧
  ∃ T, Reps E.w (fun g => E.D g ∨ (fl = false ∧ Between E o1 o2 g)) fl (L.flatMap V.cells) (xs.flatMap fun x => x.cells.toList) T ∧ (∀ g, T g → Between E o1 o2 g)
 | [], o1, o2, hd, xs, h, L, fl, ha => by
  simp only [elems, Option.some.injEq, Prod.mk.injEq] at ha
  obtain ⟨rfl, rfl, rfl⟩ := ha
  cases h
  exact ⟨Dies.refl _, rfl, by simp, Emp, by simpa using Reps.nil, fun _ h => h.elim⟩
 | c :: cs, o1, o2, hd, _, .cons (v := x) (vs := xs) h hs, L, fl, ha => by
  simp only [elems] at ha
  split at ha
  ·rename_i v f o3 h1
   split at ha
   ·rename_i vs f' o4 h2
    simp only [Option.some.injEq, Prod.mk.injEq] at ha
    obtain ⟨rfl, rfl, rfl⟩ := ha
    obtain ⟨d1, T1, r1, b1, e1⟩ := elem_rep hg hd h h1
    obtain ⟨d2, hlen, hsz, T2, r2, b2⟩ := elems_rep hg (hd.trans d1) hs h2
    have up1 : ∀ g, Between E o1 o3 g → Between E o1 o4 g := by
     rintro g ⟨r, l, hdd, ho⟩
     refine ⟨r, l, ?_, ho⟩
     rcases d2 r with e | ⟨e, _⟩
     ·rw [e]; exact hdd
     ·exact e
    have up2 : ∀ g, Between E o3 o4 g → Between E o1 o4 g := by
     rintro g ⟨r, l, hdd, ho⟩
     exact ⟨r, (d1.live l).2, hdd, ho⟩
    have c1 := r1.cells.1
    refine ⟨d1.trans d2, by simp [hlen], ?_, ?_⟩
    ·intro i v' x' hv hx
     cases i with
     | zero =>
      simp at hv hx
      subst hv; subst hx
      have := c1.length
      simpa using this
     | succ i =>
      simp at hv hx
      exact hsz i v' x' hv hx
    ·cases f with
     | true =>
      cases f' with
      | true =>
       refine ⟨fun g => T1 g ∨ T2 g, ?_, ?_⟩
       ·simp only [List.flatMap_cons]
        refine Reps.append (c1.keep (D' := fun g => E.D g ∨ ((true && true) = false ∧ Between E o1 o4 g)) (fun g hg' => ⟨.inl hg', rfl⟩) (fun _ _ _ => rfl)) (r2.keep (D' := fun g => E.D g ∨ ((true && true) = false ∧ Between E o1 o4 g)) (fun g hg' => ⟨hg'.imp id (fun h => by simp at h), rfl⟩) (fun _ _ _ => rfl)) ?_ (fun g h => .inl h) (fun g h => .inr h)
        intro g t1 t2
        obtain ⟨r, l, hdd, ho⟩ := b1 g t1
        obtain ⟨r', l', hdd', ho'⟩ := b2 g t2
        by_cases e : r = r'
        ·subst e; rw [hdd] at l'; cases l'
        ·exact hg.apart r r' e (hd.live l).2 (hd.live (d1.live l').2).2 g ho ho'
       ·rintro g (t | t)
        ·exact up1 g (b1 g t)
        ·exact up2 g (b2 g t)
      | false =>
       refine ⟨Emp, ?_, fun _ h => h.elim⟩
       rw [List.flatMap_cons, List.flatMap_cons]
       change Reps E.w (fun g => E.D g ∨ (false = false ∧ Between E o1 o4 g)) false _ _ Emp
       refine Reps.append (S1 := Emp) (S2 := Emp) (Reps.lend (D' := fun g => E.D g ∨ (false = false ∧ Between E o1 o4 g)) (fun g hg' => .inl hg') c1 (fun _ g t => .inr ⟨rfl, up1 g (b1 g t)⟩)) ?_ (fun _ h => h.elim) (fun _ h => h) (fun _ h => h)
       exact (r2.keep (D' := fun g => E.D g ∨ (false = false ∧ Between E o1 o4 g)) (fun g hg' => ⟨hg'.imp id (fun h => ⟨rfl, up2 g h.2⟩), rfl⟩) (fun h => by cases h)).ro
     | false =>
      have e3 := e1 rfl
      subst e3
      refine ⟨Emp, ?_, fun _ h => h.elim⟩
      rw [List.flatMap_cons, List.flatMap_cons]
      change Reps E.w (fun g => E.D g ∨ (false = false ∧ Between E o3 o4 g)) false _ _ Emp
      refine Reps.append (S1 := Emp) (S2 := Emp) ((c1.keep (D' := fun g => E.D g ∨ (false = false ∧ Between E o3 o4 g)) (fun g hg' => ⟨.inl hg', rfl⟩) (fun h => by cases h)).ro) ?_ (fun _ h => h.elim) (fun _ h => h) (fun _ h => h)
      cases f' with
      | true => exact Reps.lend (fun g hg' => hg'.imp id (fun h => by simp at h)) r2 (fun _ g t => .inr ⟨rfl, b2 g t⟩)
      | false => exact (r2.keep (D' := fun g => E.D g ∨ (false = false ∧ Between E o3 o4 g)) (fun g hg' => ⟨hg', rfl⟩) (fun h => by cases h)).ro
   ·cases ha
  ·cases ha
end
end Go.Ab
set_option linter.unusedVariables false
set_option linter.unusedSimpArgs false
namespace Go.Ab
open Go.RowKit
section
variable {P : Program} {N : Fr} {w0 : Base} {D0 : BSet} {E : Env} {st : St} {a : Act} {w : World}
theorem mk_inplace (hg : Good w0 D0 E) {o2 : Objs} (hd : Dies E.objs o2) {r g o : Nat} (hr : live (E.objs r) = true) (hrd : o2 r = some .dead) (hloc : E.loc r = some (g, o)) {id sz : Nat} (hf : E.objs id = none) {fl : Bool} {L : List V} {vs : List Value} {T : BSet}
  (h : Reps E.w (fun q => E.D q ∨ (fl = false ∧ Gone E o2 q ∧ q ≠ g)) fl (L.flatMap V.cells) vs T) (hT : fl = true → ∀ q, T q → Gone E o2 q ∧ q ≠ g) (hu : Uni sz L) {w' : World} {cur : Array Value} {e : TypeId}
  (hw : w'.heap[g]? = some (.cells cur e (0, 0))) (hoth : ∀ q, q ≠ g → w'.heap[q]? = E.w.heap[q]?) (hsz : w'.heap.size = E.w.heap.size) (hos : w'.os = E.w.os) (htp : w'.tape = E.w.tape) (hou : w'.output = E.w.output)
  {o' : Nat} (hc : ∀ (j : Nat) (u : Value), vs[j]? = some u → cur[o' + j]? = some u) {c : Nat} (hlc : L.length ≤ c) (hm : c ≤ maxLen) (hs : c ≠ 0 → o' + c * sz ≤ cur.size)
  (hsize : ∀ (cur0 : Array Value) (e0 : TypeId), E.w.heap[g]? = some (.cells cur0 e0 (0, 0)) → cur.size = cur0.size) :
  ∃ E', E.Le E' ∧ Good w0 D0 E' ∧ E'.w = w' ∧ E'.objs = upd o2 id (some (.row fl sz L)) ∧ AvRep E' (.sl id 0 L.length) (.slice (some ⟨g, o', none⟩) L.length c) := by
 have hgown : E.own r g := .inr ⟨o, hloc⟩
 obtain ⟨gi1, gi2, gi3⟩ := hg.ownIn r hr g hgown
 have hgone : Gone E o2 g := ⟨r, hr, hrd, hgown⟩
 have hm' : MkOk w0 E o2 w' (fun q => E.D q ∨ (fl = false ∧ Gone E o2 q ∧ q ≠ g)) id (some (g, o')) (fun q => fl = true ∧ T q) := by
  refine ⟨hd, hf, fun q h => .inl h, ?_, ?_, ?_, .inr ⟨?_, by omega, hos, htp, hou, fun k c1 e1 hc1 => by
   by_cases q : k = g
   ·subst q; exact ⟨cur, e, hw, hsize c1 e1 hc1⟩
   ·exact ⟨c1, e1, (hoth k q).trans hc1, rfl⟩⟩⟩
  ·rintro q (h | ⟨_, h, _⟩)
   ·exact .inl h
   ·exact .inr (.inl h)
  ·intro q hgo
   rcases hgo with ⟨hfl, ht⟩ | ⟨p, hp⟩
   ·obtain ⟨hq, hne⟩ := hT hfl q ht
    have hq' := hq
    obtain ⟨r', hl, _, ho⟩ := hq
    obtain ⟨q1, q2, q3⟩ := hg.ownIn r' hl q ho
    refine ⟨.inl hq', by omega, ?_⟩
    rintro (h | ⟨h, _⟩)
    ·exact q3 h
    ·rw [hfl] at h; cases h
   ·simp only [Option.some.injEq, Prod.mk.injEq] at hp
    obtain ⟨rfl, rfl⟩ := hp
    refine ⟨.inl hgone, by omega, ?_⟩
    rintro (h | ⟨_, _, h⟩)
    ·exact gi3 h
    ·exact h rfl
  ·intro q p hp ⟨hfl, ht⟩
   simp only [Option.some.injEq, Prod.mk.injEq] at hp
   obtain ⟨rfl, rfl⟩ := hp
   exact (hT hfl _ ht).2 rfl
  ·intro q hq
   by_cases e : q = g
   ·subst e; exact .inl hgone
   ·exact .inr (hoth q e)
 refine ⟨E.mkr o2 w' _ id (.row fl sz L) (some (g, o')) _, mkr_le hg hm', mkr_good hg hm' ?_, rfl, rfl, .sl (by simp [Env.mkr, upd_same]) ?_⟩
 ·simp only [RootRep, Env.mkr, upd_same]
  refine ⟨vs, ⟨cur, e, hw, hc⟩, hu, ?_⟩
  have h' : Reps w' (fun q => E.D q ∨ (fl = false ∧ Gone E o2 q ∧ q ≠ g)) fl (L.flatMap V.cells) vs T := by
   refine h.keep ?_ ?_
   ·rintro q (hq | ⟨hf', hq, hne⟩)
    ·exact ⟨.inl hq, hoth q (fun e => gi3 (e ▸ hq))⟩
    ·exact ⟨.inr ⟨hf', hq, hne⟩, hoth q hne⟩
   ·intro hfl q ht
    exact hoth q (hT hfl q ht).2
  cases fl with
  | true => exact h'.wide (fun g hg' => ⟨rfl, hg'⟩)
  | false => exact h'.ro
 ·intro own sz' L' ho
  simp only [Env.mkr, upd_same, Option.some.injEq, Root.row.injEq] at ho
  obtain ⟨rfl, rfl, rfl⟩ := ho
  refine ⟨by simp, ?_⟩
  simp only [SlAt, Env.mkr, upd_same]
  exact ⟨_, c, rfl, hlc, hm, fun _ => by simp, fun _ => .inr ⟨o', rfl⟩, by omega, cur, e, hw, fun hne => by simpa using hs hne⟩
theorem run_append_zero {t ty e : TypeId} {i : TypeInfo} (ht : P.underlying t = some (.slice e)) (hi : P.info? e = some i) (base : Option Addr) (n c : Nat) (hnc : n ≤ c) (y : Option Addr) (c2 : Nat) :
  (Builtin.append_ #[t, t] ty #[.slice base n c, .slice y 0 c2]).run P w = .ok (.slice base n c) w := by
 have hy : (Builtin.firstCells i.size 0 (.slice y 0 c2)).run P w = .ok #[] w := by
  cases y <;> simp [Builtin.firstCells, loadCells, loadCellsFrom]
 cases base with
 | none => simp [Builtin.append_, run_underlying ht, sizeOf, typeInfo, hi, Builtin.lenOf, hnc, hy]
 | some b => simp [Builtin.append_, run_underlying ht, sizeOf, typeInfo, hi, Builtin.lenOf, hnc, hy, storeCells]
theorem run_append_room' {t ty e : TypeId} {i : TypeInfo} (ht : P.underlying t = some (.slice e)) (hi : P.info? e = some i) (g o n c : Nat) (cur : Array Value) (e' : TypeId) (hg : w.heap[g]? = some (.cells cur e' (0, 0)))
  (ad : Addr) (m c2 : Nat) (news : List Value) (hl : news.length = m * i.size) (hnews : ∀ (j : Nat) (u : Value), news[j]? = some u → w.cell? (ad.add j) = some u) (h1 : ∀ u ∈ news, u.oneCell' = true)
  (hroom : n + m ≤ c) (hfit : o + n * i.size + news.length ≤ cur.size) :
  (Builtin.append_ #[t, t] ty #[.slice (some ⟨g, o, none⟩) n c, .slice (some ad) m c2]).run P w =
   .ok (.slice (some ⟨g, o, none⟩) (n + m) c) (w.setRow g (cur.toList.take (o + n * i.size) ++ news ++ cur.toList.drop (o + n * i.size + news.length)).toArray) := by
 have hf := run_firstCells_some (P := P) w i.size m ad m c2 news hl hnews
 have hst := run_storeCells_at P g (o + n * i.size) e' news 0 cur w hg (by simpa using hfit) h1
 simp only [Nat.add_zero] at hst
 simp [Builtin.append_, run_underlying ht, sizeOf, typeInfo, hi, Builtin.lenOf, hroom, hf, addr_add, hst]
theorem Reps.ones {D : BSet} : ∀ {o : Bool} {cs : List V} {vs : List Value} {S : BSet}, Reps w D o cs vs S → (∀ c ∈ cs, V.one c = true) → ∀ v ∈ vs, v.oneCell' = true
 | _, _, _, _, .nil, _ => by simp
 | _, _, _, _, .cons h1 h2 _ _ _, hone => by
  intro v hv
  rcases List.mem_cons.1 hv with rfl | hv
  ·exact h1.oneCell (hone _ (by simp))
  ·exact Reps.ones h2 (fun c hc => hone c (by simp [hc])) v hv
theorem Uni.flat_one {sz : Nat} {L : List V} (h : Uni sz L) : ∀ c ∈ L.flatMap V.cells, V.one c = true := by
 intro c hc
 obtain ⟨x, hx, hcx⟩ := List.mem_flatMap.1 hc
 exact (h x hx).2 c hcx
theorem Uni.append {sz : Nat} {L L' : List V} (h : Uni sz L) (h' : Uni sz L') : Uni sz (L ++ L') := by
 intro x hx
 rcases List.mem_append.1 hx with hx | hx
 ·exact h x hx
 ·exact h' x hx
theorem append_core (hg : Good w0 D0 E) {t ty e : TypeId} {i : TypeInfo} {z : Value} (ht : P.underlying t = some (.slice e)) (hi : P.info? e = some i) (hz : i.zero = some z) (hzs : z.cells.size = i.size)
  {r off len : Nat} {own : Bool} {L : List V} {x : Value} (hx : AvRep E (.sl r off len) x) (ho : E.objs r = some (.row own i.size L))
  {o2 : Objs} (hd : Dies E.objs o2) (hrd : o2 r = some .dead) {id : Nat} (hf : E.objs id = none) {fl : Bool}
  {ad2 : Option Addr} {m c2 : Nat} {news : List Value} {L2 : List V} (hm2 : L2.length = m) (hu2 : Uni i.size L2) (hnl : news.length = m * i.size)
  (hsrc : m ≠ 0 → ∃ ad, ad2 = some ad ∧ ∀ (j : Nat) (u : Value), news[j]? = some u → E.w.cell? (ad.add j) = some u) (h1 : ∀ u ∈ news, u.oneCell' = true)
  (hfl : fl = true → own = true) (T2 : BSet) (hr2 : Reps E.w (fun q => E.D q ∨ (fl = false ∧ Gone E o2 q ∧ ¬ E.own r q)) fl (L2.flatMap V.cells) news T2) (hT2 : ∀ q, T2 q → Gone E o2 q ∧ ¬ E.own r q)
  (hmax : len + m ≤ maxLen) (hby : (len + m) * i.bytes ≤ 140737488355328) :
  ∃ v w' E', (Builtin.append_ #[t, t] ty #[x, .slice ad2 m c2]).run P E.w = .ok v w' ∧ E.Le E' ∧ Good w0 D0 E' ∧ E'.w = w' ∧ E'.objs = upd o2 id (some (.row fl i.size ((L.drop off).take len ++ L2))) ∧ AvRep E' (.sl id 0 (len + m)) v := by
 have hlr : live (E.objs r) = true := live_row ho
 obtain ⟨ad, c, vs, rfl, hlc, hcm, hvl, hrv, huv, hle, hpl⟩ := part_cells hg hx ho
 have hlen : ((L.drop off).take len).length = len := by simp; omega
 have hLen : ((L.drop off).take len ++ L2).length = len + m := by rw [List.length_append, hlen, hm2]
 have hU : Uni i.size ((L.drop off).take len ++ L2) := huv.append hu2
 have hSgone : ∀ q, E.S r q → Gone E o2 q := fun q hq => ⟨r, hlr, hrd, .inl hq⟩
 -- the new row's cells, and what they own
 have hReps : ∀ (X : Nat → Prop), (∀ q, X q → ¬ E.S r q) → (∀ q, X q → E.own r q) →
   Reps E.w (fun q => E.D q ∨ (fl = false ∧ Gone E o2 q ∧ ¬ X q)) fl (((L.drop off).take len ++ L2).flatMap V.cells) (vs ++ news) (fun q => E.S r q ∨ T2 q) := by
  intro X hX hXo
  rw [List.flatMap_append]
  cases fl with
  | true =>
   obtain rfl := hfl rfl
   refine Reps.append (hrv.keep (fun q hq => ⟨.inl hq, rfl⟩) (fun _ _ _ => rfl)) (hr2.keep (fun q hq => ⟨hq.imp (fun h => h) (fun h => by simp at h), rfl⟩) (fun _ _ _ => rfl)) ?_ (fun _ h => .inl h) (fun _ h => .inr h)
   intro q h1 h2
   exact (hT2 q h2).2 (.inl h1)
  | false =>
   refine Reps.append (S1 := Emp) (S2 := Emp) ?_ ?_ (fun _ h => h.elim) (fun _ h => h.elim) (fun _ h => h.elim)
   ·cases own with
    | true => exact Reps.lend (fun q hq => .inl hq) hrv (fun _ q hq => .inr ⟨rfl, hSgone q hq, fun hx => hX q hx hq⟩)
    | false => exact (hrv.keep (fun q hq => ⟨.inl hq, rfl⟩) (fun h => by cases h)).ro
   ·exact (hr2.keep (D' := fun q => E.D q ∨ (false = false ∧ Gone E o2 q ∧ ¬ X q)) (fun q hq => ⟨hq.imp (fun h => h) (fun h => ⟨rfl, h.2.1, fun hx => h.2.2 (hXo q hx)⟩), rfl⟩) (fun h => by cases h)).ro
 by_cases hm0 : m = 0
 ·-- nothing is appended
  subst hm0
  have hL2 : L2 = [] := List.eq_nil_of_length_eq_zero hm2
  subst hL2
  have hn0 : news = [] := List.eq_nil_of_length_eq_zero (by simpa using hnl)
  subst hn0
  have hrun := run_append_zero (P := P) (w := E.w) (ty := ty) ht hi ad len c hlc ad2 c2
  rcases hpl with ⟨rfl, rfl⟩ | ⟨g, o, cur, e', hl, rfl, hh, hs, hcells⟩
  ·have hl0 : len = 0 := by omega
   subst hl0
   have hm : MkOk w0 E o2 E.w E.D id none Emp := ⟨hd, hf, fun g h => h, fun g h => .inl h, (fun g h => by rcases h with h | ⟨q, h⟩ <;> cases h), (fun g q h => by cases h), .inl (Below.refl _ _)⟩
   refine ⟨_, _, E.mkr o2 E.w E.D id (.row fl i.size []) none Emp, hrun, mkr_le hg hm, mkr_good hg hm (by simp [RootRep, Env.mkr, upd_same]), rfl, by simp [Env.mkr], .sl (by simp [Env.mkr, upd_same]) ?_⟩
   intro own' sz' L' ho'
   simp only [Env.mkr, upd_same, Option.some.injEq, Root.row.injEq] at ho'
   obtain ⟨rfl, rfl, rfl⟩ := ho'
   exact ⟨by simp, by simp [SlAt, Env.mkr, upd_same]⟩
  ·have hgr : E.own r g := .inr ⟨o, hl⟩
   have hnS := hg.ownS r hlr g o hl
   have R := hReps (fun q => q = g) (fun q hq => by subst hq; exact hnS) (fun q hq => by subst hq; exact hgr)
   obtain ⟨E', h1', h2', h3', h4', h5'⟩ := mk_inplace hg hd hlr hrd hl hf (sz := i.size) (fl := fl) (w' := E.w) (cur := cur) (e := e') (o' := o + off * i.size) (c := c) R
    (fun _ q hq => by
     rcases hq with hq | hq
     ·exact ⟨hSgone q hq, fun e => hnS (e ▸ hq)⟩
     ·exact ⟨(hT2 q hq).1, fun e => (hT2 q hq).2 (e ▸ hgr)⟩) hU hh (fun _ _ => rfl) rfl rfl rfl rfl (by simpa using hcells) (by rw [hLen]; omega) hcm (fun _ => by rw [Nat.add_mul] at hs; omega) (fun c0 e0 h0 => by rw [hh] at h0; simp only [Option.some.injEq, Obj.cells.injEq] at h0; rw [h0.1])
   rw [hLen] at h5'
   exact ⟨_, _, E', hrun, h1', h2', h3', h4', h5'⟩
 ·obtain ⟨ad', rfl, hsrc'⟩ := hsrc hm0
  have hvones : ∀ v ∈ vs, v.oneCell' = true := Reps.ones hrv huv.flat_one
  have hones : ∀ v ∈ vs ++ news, v.oneCell' = true := by
   intro v hv
   rcases List.mem_append.1 hv with hv | hv
   ·exact hvones v hv
   ·exact h1 v hv
  by_cases hroom : len + m ≤ c
  ·-- there is room
   rcases hpl with ⟨rfl, rfl⟩ | ⟨g, o, cur, e', hl, rfl, hh, hs, hcells⟩
   ·omega
   ·have hgr : E.own r g := .inr ⟨o, hl⟩
    have hnS := hg.ownS r hlr g o hl
    have hmul : (off + c) * i.size = off * i.size + c * i.size := Nat.add_mul _ _ _
    have hmul2 : (len + m) * i.size = len * i.size + m * i.size := Nat.add_mul _ _ _
    have hmul3 : (len + m) * i.size ≤ c * i.size := Nat.mul_le_mul_right _ hroom
    have hfit : o + off * i.size + len * i.size + news.length ≤ cur.size := by rw [hnl]; omega
    have hrun := run_append_room' (P := P) (w := E.w) (ty := ty) ht hi g (o + off * i.size) len c cur e' hh ad' m c2 news hnl hsrc' h1 hroom hfit
    have R := hReps (fun q => q = g) (fun q hq => by subst hq; exact hnS) (fun q hq => by subst hq; exact hgr)
    obtain ⟨E', h1', h2', h3', h4', h5'⟩ := mk_inplace hg hd hlr hrd hl hf (sz := i.size) (fl := fl) (w' := E.w.setRow g (cur.toList.take (o + off * i.size + len * i.size) ++ news ++ cur.toList.drop (o + off * i.size + len * i.size + news.length)).toArray) (e := e') (o' := o + off * i.size) (c := c) R
     (fun _ q hq => by
      rcases hq with hq | hq
      ·exact ⟨hSgone q hq, fun e => hnS (e ▸ hq)⟩
      ·exact ⟨(hT2 q hq).1, fun e => (hT2 q hq).2 (e ▸ hgr)⟩) hU (setRow_heap E.w g cur _ e' _ hh) (fun q hq => setRow_other E.w g q _ hq) (by simp [World.setRow]) rfl rfl rfl
     (by
      intro j u hj
      simp only [List.getElem?_toArray]
      rw [List.getElem?_append] at hj
      have hA : (cur.toList.take (o + off * i.size + len * i.size)).length = o + off * i.size + len * i.size := by simp; omega
      split at hj
      ·rename_i hlt
       rw [List.getElem?_append_left (by rw [List.length_append, hA]; omega), List.getElem?_append_left (by rw [hA]; omega), List.getElem?_take, if_pos (by omega)]
       simpa using hcells j u hj
      ·rename_i hge
       have hlt : j - vs.length < news.length := by
        rcases Nat.lt_or_ge (j - vs.length) news.length with h | h
        ·exact h
        ·rw [List.getElem?_eq_none h] at hj; cases hj
       rw [List.getElem?_append_left (by rw [List.length_append, hA]; omega), List.getElem?_append_right (by rw [hA]; omega), hA]
       rw [show o + off * i.size + j - (o + off * i.size + len * i.size) = j - vs.length by omega]
       exact hj)
     (by rw [hLen]; exact hroom) hcm (fun _ => by simp; omega) (fun c0 e0 h0 => by rw [hh] at h0; simp only [Option.some.injEq, Obj.cells.injEq] at h0; rw [← h0.1]; simp; omega)
    rw [hLen] at h5'
    exact ⟨_, _, E', hrun, h1', h2', h3', h4', h5'⟩
  ·-- a new array
   have hge := grownCap_ge E.w (len + m) c e
   have hgm := grownCap_le_maxLen E.w (len + m) c e hmax
   have R := hReps (fun _ => False) (fun q h => h.elim) (fun q h => h.elim)
   have R' : Reps E.w (fun q => E.D q ∨ (fl = false ∧ Gone E o2 q)) fl (((L.drop off).take len ++ L2).flatMap V.cells) (vs ++ news) (fun q => E.S r q ∨ T2 q) :=
    R.keep (fun q hq => ⟨hq.imp (fun h => h) (fun h => ⟨h.1, h.2.1⟩), rfl⟩) (fun _ _ _ => rfl)
   have hTg : fl = true → ∀ q, (E.S r q ∨ T2 q) → Gone E o2 q := fun _ q hq => hq.elim (hSgone q) (fun h => (hT2 q h).1)
   have hsmall : len + m ≤ 9223372036854775807 := by simp only [maxLen] at hmax; omega
   have hsum : (vs ++ news).length = (len + m) * i.size := by rw [List.length_append, hvl, hnl, Nat.add_mul]
   have fin : ∀ w', (w' = E.w.drew.alloc (.cells (vs.toArray ++ news.toArray ++ Builtin.zeroCells z.cells (grownCap E.w (len + m) c e - (len + m))) e)) →
     (Builtin.append_ #[t, t] ty #[.slice ad len c, .slice (some ad') m c2]).run P E.w = .ok (.slice (some ⟨E.w.heap.size, 0, none⟩) (len + m) (grownCap E.w (len + m) c e)) w' →
     ∃ v w' E', (Builtin.append_ #[t, t] ty #[.slice ad len c, .slice (some ad') m c2]).run P E.w = .ok v w' ∧ E.Le E' ∧ Good w0 D0 E' ∧ E'.w = w' ∧ E'.objs = upd o2 id (some (.row fl i.size ((L.drop off).take len ++ L2))) ∧ AvRep E' (.sl id 0 (len + m)) v := by
    intro w' hw' hrun
    obtain ⟨E', h1', h2', h3', h4', h5'⟩ := mk_row hg hd hf (sz := i.size) (fl := fl) R' hTg hU (w' := w') (.inr hw') (by
      intro j u hj
      have hlt : j < (vs ++ news).length := by
       rcases Nat.lt_or_ge j (vs ++ news).length with h | h
       ·exact h
       ·rw [List.getElem?_eq_none h] at hj; cases hj
      rw [Array.getElem?_append_left (by simpa using hlt)]
      simpa using hj) hones (c := grownCap E.w (len + m) c e) (by rw [hLen]; exact hge) hgm (fun _ => by
      have hsz : (vs.toArray ++ news.toArray ++ Builtin.zeroCells z.cells (grownCap E.w (len + m) c e - (len + m))).size = (vs ++ news).length + (grownCap E.w (len + m) c e - (len + m)) * i.size := by
       simp [size_zeroCells, hzs]
      rw [hsz, hsum, ← Nat.add_mul]
      exact Nat.mul_le_mul_right _ (by omega))
    rw [hLen] at h5'
    exact ⟨_, w', E', hrun, h1', h2', h3', h4', h5'⟩
   rcases hpl with ⟨rfl, rfl⟩ | ⟨g, o, cur, e', hl, rfl, hh, hs, hcells⟩
   ·have hl0 : len = 0 := by omega
    subst hl0
    cases ad with
    | none =>
     have hrun := run_append_nil (P := P) E.w t ty e i z ht hi hz ad' m c2 news hnl hsrc' (by omega) (by omega) (by simp only [Nat.zero_add] at hby; omega)
     refine fin _ rfl ?_
     simpa using hrun
    | some b =>
     have hrun := run_append_grow (P := P) E.w t ty e i z ht hi hz b 0 0 [] (by simp) (by simp) ad' m c2 news hnl hsrc' (by omega) (by omega) (growslice_fits (by omega) hby)
     exact fin _ rfl (by simpa using hrun)
   ·have hrun := run_append_grow (P := P) E.w t ty e i z ht hi hz ⟨g, o + off * i.size, none⟩ len c vs hvl (fun j v hj => by rw [addr_add]; simp [World.cell?, hh, hcells j v hj]) ad' m c2 news hnl hsrc' (by omega) (by omega) (growslice_fits (by omega) hby)
    exact fin _ rfl hrun
end
end Go.Ab
