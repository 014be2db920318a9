/- Operations that make or change memory: what they do to the abstract frame (own framework). -/
import Derived.Test.YthcojmhjnbebdaaDoorA5
set_option linter.unusedVariables false
set_option linter.unusedSimpArgs false
namespace Go.Ab
open Go.RowKit

/-- The cells of a value that is put into a variable. -/
def cellsAV (s : St) : AV → Option (List AV)
  | .agg cs => some cs
  | .fn f cs => some [.fn f cs]
  | .sl r off len => match s.objs r with
    | some (.row _ _ _) => some [.sl r off len]
    | _ => none
  | .ptr r i f => if cel (s.objs r) = true then some [.ptr r i f] else none
  | .mp r => match s.objs r with
    | some (.map _) => some [.mp r]
    | _ => none
  | .val src v => match s.view (.val src v) with
    | some (src, .agg cs) => some (cs.map (mk src))
    | some (src, u) => some [mk src u]
    | none => none
  | _ => none

abbrev Objs := Nat → Option Root

def absorb1 (o : Objs) : AV → Option (V × Objs)
  | .val none v => if v.scalar = true then some (v, o) else none
  | .sl r off len => match o r with
    | some (.row true sz L) => some (.sl sz ((L.drop off).take len), upd o r (some .dead))
    | _ => none
  | _ => none
def absorbL (o : Objs) : List AV → Option (List V × Objs)
  | [] => some ([], o)
  | c :: cs => match absorb1 o c with
    | some (v, o1) => match absorbL o1 cs with
      | some (vs, o2) => some (v :: vs, o2)
      | none => none
    | none => none
/-- A value with all that it owns becomes a part of an element. -/
def absorb (o : Objs) : AV → Option (V × Objs)
  | .agg cs => match absorbL o cs with
    | some (vs, o') => some (.agg vs, o')
    | none => none
  | .val none v => if v.plain = true then some (v, o) else none
  | c => absorb1 o c
def roL : List AV → Option (List V)
  | [] => some []
  | .val none v :: cs => if v.one = true then (match roL cs with
    | some vs => some (v :: vs)
    | none => none) else none
  | _ :: _ => none
/-- A value that is only read becomes a part of an element. -/
def roMode : AV → Option V
  | .val none v => some v
  | .agg cs => (roL cs).map V.agg
  | _ => none
def elem (o : Objs) (c : AV) : Option (V × Bool × Objs) :=
  match absorb o c with
  | some (v, o') => some (v, true, o')
  | none => match roMode c with
    | some v => some (v, false, o)
    | none => none

/-- The blocks of all roots that live. -/
def Env.all (E : Env) (g : Nat) : Prop := ∃ r, live (E.objs r) = true ∧ E.own r g

theorem upd_dead_live {o : Objs} {r r' : Nat} (h : live (upd o r (some .dead) r') = true) : r' ≠ r ∧ live (o r') = true := by
  by_cases e : r' = r
  · subst e; rw [upd_same] at h; cases h
  · rw [upd_ne e] at h; exact ⟨e, h⟩

/-- 'o2' is o1 but for some roots that have died. -/
def Dies (o1 o2 : Objs) : Prop := ∀ r, o2 r = o1 r ∨ (o2 r = some .dead ∧ live (o1 r) = true)
theorem Dies.refl (o : Objs) : Dies o o := fun r => .inl rfl
theorem Dies.trans {o1 o2 o3 : Objs} (h : Dies o1 o2) (h' : Dies o2 o3) : Dies o1 o3 := by
  intro r
  rcases h' r with e | ⟨e, l⟩
  · rcases h r with e' | ⟨e', l'⟩
    · exact .inl (e.trans e')
    · exact .inr ⟨e.trans e', l'⟩
  · rcases h r with e' | ⟨e', l'⟩
    · exact .inr ⟨e, by rw [← e']; exact l⟩
    · rw [e'] at l; cases l
theorem Dies.live {o1 o2 : Objs} (h : Dies o1 o2) {r : Nat} (hl : live (o2 r) = true) : o2 r = o1 r ∧ Ab.live (o1 r) = true := by
  rcases h r with e | ⟨e, l⟩
  · exact ⟨e, by rw [← e]; exact hl⟩
  · rw [e] at hl; cases hl

/-- The blocks of what died between. -/
def Gone (E : Env) (o2 : Objs) (g : Nat) : Prop := ∃ r, live (E.objs r) = true ∧ o2 r = some .dead ∧ E.own r g

section
variable {P : Program} {N : Fr} {w0 : Base} {D0 : BSet} {E : Env} {st : St} {a : Act} {w : World}

/-- The frame with some roots gone: their blocks are read only from now on. -/
def Env.kill (E : Env) (o2 : Objs) : Env := { E with objs := o2, D := fun g => E.D g ∨ Gone E o2 g }

theorem kill_le (hg : Good w0 D0 E) {o2 : Objs} (hd : Dies E.objs o2) : E.Le (E.kill o2) := by
  refine ⟨fun g h => ⟨.inl h, rfl⟩, ?_, ?_⟩
  · intro r hr hn
    rcases hd r with e | ⟨e, l⟩
    · exact hr (e ▸ hn)
    · have : o2 r = none := hn
      rw [e] at this; cases this
  · intro r hr o' ho' hnd
    rcases hd r with e | ⟨e, l⟩
    · have ho : E.objs r = some o' := by rw [← e]; exact ho'
      exact ⟨o', ho, rfl, fun g hg => ⟨.inl hg, rfl⟩, by cases o' <;> simp_all, fun g q _ cur e h => ⟨cur, e, h, rfl⟩⟩
    · have : o2 r = some o' := ho'
      rw [e] at this
      simp only [Option.some.injEq] at this
      exact absurd this.symm hnd

/-- Roots of a frame that knows more: a row's content stays what it is. -/
theorem RootRep.le {E E' : Env} (hE : E.Le E') {r : Nat} {o : Root} (h : RootRep E r o) (hloc : E'.loc r = E.loc r) (hS : E'.S r = E.S r) (hw : ∀ g, E.own r g → E'.w.heap[g]? = E.w.heap[g]?) : RootRep E' r o := by
  cases o with
  | row own sz L =>
    simp only [RootRep, hloc] at h ⊢
    split
    · rename_i hl; rw [hl] at h; exact h
    · rename_i g q hl
      rw [hl] at h
      obtain ⟨vs, hb, hu, hr⟩ := h
      refine ⟨vs, hb.keep (hw g (.inr ⟨q, hl⟩)), hu, ?_⟩
      rw [hS]
      exact hr.keep hE.d (fun _ g hg => hw g (.inl hg))
  | box cs =>
    obtain ⟨g, cur, e, hl, hh, hr, h1⟩ := h
    exact ⟨g, cur, e, hloc.trans hl, (hw g (.inr ⟨0, hl⟩)).trans hh, hr.le hE, h1⟩
  | dead => trivial
  | map es =>
    obtain ⟨g, hl, hh⟩ := h
    exact ⟨g, hloc.trans hl, (hw g (.inr ⟨0, hl⟩)).trans hh⟩

theorem kill_good (hg : Good w0 D0 E) {o2 : Objs} (hd : Dies E.objs o2) : Good w0 D0 (E.kill o2) := by
  have hle := kill_le hg hd
  refine ⟨hg.below, ?_, fun g h => .inl (hg.d0 g h), ?_, ?_, ?_, ?_, hg.tabs.keep hle.d⟩
  · rintro g (h | ⟨r, hl, _, ho⟩)
    · exact hg.dIn g h
    · obtain ⟨h1, h2, _⟩ := hg.ownIn r hl g ho
      exact ⟨h2, .inr h1⟩
  · intro r o ho
    by_cases hdead : o = .dead
    · subst hdead; trivial
    · have hl : live (o2 r) = true := by
        have : o2 r = some o := ho
        rw [this]; cases o <;> first | rfl | exact absurd rfl hdead
      have := hd.live hl
      exact RootRep.le hle (hg.roots r o (by rw [← this.1]; exact ho)) rfl rfl (fun _ _ => rfl)
  · intro r hl g ho
    obtain ⟨e, l⟩ := hd.live hl
    obtain ⟨h1, h2, h3⟩ := hg.ownIn r l g ho
    refine ⟨h1, h2, ?_⟩
    rintro (h | ⟨r', hl', hdead, ho'⟩)
    · exact h3 h
    · by_cases er : r = r'
      · subst er
        have : live (o2 r) = true := hl
        rw [hdead] at this; cases this
      · exact hg.apart r r' er l hl' g ho ho'
  · intro r hl g q hq
    exact hg.ownS r (hd.live hl).2 g q hq
  · intro r r' hne hl hl' g ho
    exact hg.apart r r' hne (hd.live hl).2 (hd.live hl').2 g ho

/-- The frame with a new root; some others have died. -/
def Env.mkr (E : Env) (o2 : Objs) (w' : World) (D' : BSet) (id : Nat) (ob : Root) (l : Option (Nat × Nat)) (T : BSet) : Env :=
  { w := w', D := D', S := upd E.S id T, loc := upd E.loc id l, objs := upd o2 id (some ob) }

/-- A block that no root and no argument has. -/
def Fresh (w0 : Base) (E : Env) (g : Nat) : Prop := w0.new g ∧ ∀ r, live (E.objs r) = true → ¬ E.own r g
theorem fresh_new (hg : Good w0 D0 E) {g : Nat} (h : E.w.heap.size ≤ g) : Fresh w0 E g :=
  ⟨.inl (Nat.le_trans hg.below.size h), fun r hl ho => by have := (hg.ownIn r hl g ho).2.1; omega⟩

structure MkOk (w0 : Base) (E : Env) (o2 : Objs) (w' : World) (D' : BSet) (id : Nat) (l : Option (Nat × Nat)) (T : BSet) : Prop where
  dies : Dies E.objs o2
  free : E.objs id = none
  dSub : ∀ g, E.D g → D' g
  dNew : ∀ g, D' g → E.D g ∨ Gone E o2 g ∨ (Fresh w0 E g ∧ g < w'.heap.size)
  own : ∀ g, (T g ∨ ∃ q, l = some (g, q)) → (Gone E o2 g ∨ Fresh w0 E g) ∧ g < w'.heap.size ∧ ¬ D' g
  ownS : ∀ g q, l = some (g, q) → ¬ T g
  below : Below E.w.heap.size E.w w' ∨ (∀ g, g < E.w.heap.size → (Gone E o2 g ∨ w'.heap[g]? = E.w.heap[g]?)) ∧ E.w.heap.size ≤ w'.heap.size ∧ w'.os = E.w.os ∧ w'.tape = E.w.tape ∧ w'.output = E.w.output ∧ (∀ (k : Nat) (cur : Array Value) (e : TypeId), E.w.heap[k]? = some (.cells cur e (0, 0)) → ∃ cur' e', w'.heap[k]? = some (.cells cur' e' (0, 0)) ∧ cur'.size = cur.size)

theorem mkr_keep (hg : Good w0 D0 E) {o2 : Objs} {w' : World} {D' : BSet} {id : Nat} {l : Option (Nat × Nat)} {T : BSet} (h : MkOk w0 E o2 w' D' id l T) :
    E.w.heap.size ≤ w'.heap.size ∧ Stays w0 w' ∧ (∀ g, E.D g → w'.heap[g]? = E.w.heap[g]?) ∧ (∀ r, live (o2 r) = true → ∀ g, E.own r g → w'.heap[g]? = E.w.heap[g]?) := by
  have hb : E.w.heap.size ≤ w'.heap.size ∧ w'.os = E.w.os ∧ w'.tape = E.w.tape ∧ w'.output = E.w.output ∧ (∀ g, g < E.w.heap.size → (Gone E o2 g ∨ w'.heap[g]? = E.w.heap[g]?)) ∧ (∀ (k : Nat) (cur : Array Value) (e : TypeId), E.w.heap[k]? = some (.cells cur e (0, 0)) → ∃ cur' e', w'.heap[k]? = some (.cells cur' e' (0, 0)) ∧ cur'.size = cur.size) := by
    rcases h.below with hb | ⟨h1, h2, h3, h4, h5, h6⟩
    · exact ⟨hb.size, hb.os, hb.tape, hb.output, fun g hg => .inr (hb.block g hg), (stays_of_below (S := Emp) (x := w0.x) hb).held⟩
    · exact ⟨h2, h3, h4, h5, h1, h6⟩
  obtain ⟨h2, h3, h4, h5, h1, h6⟩ := hb
  refine ⟨h2, ⟨h3.trans hg.below.os, h4.trans hg.below.tape, h5.trans hg.below.output, Nat.le_trans hg.below.size h2, ?_, ?_⟩, ?_, ?_⟩
  · intro k hk hn
    rcases h1 k (Nat.lt_of_lt_of_le hk hg.below.size) with ⟨r, hl, _, ho⟩ | e
    · rcases (hg.ownIn r hl k ho).1 with h | h
      · omega
      · exact absurd h hn
    · exact e.trans (hg.below.block k hk hn)
  · intro k cur e hc
    obtain ⟨c1, e1, k1, s1⟩ := hg.below.held k cur e hc
    obtain ⟨c2, e2, k2, s2⟩ := h6 k c1 e1 k1
    exact ⟨c2, e2, k2, s2.trans s1⟩
  · intro g hgD
    rcases h1 g (hg.dIn g hgD).1 with ⟨r, hl, _, ho⟩ | e
    · exact absurd hgD (hg.ownIn r hl g ho).2.2
    · exact e
  · intro r hl g ho
    have hl' := (h.dies.live hl).2
    rcases h1 g (hg.ownIn r hl' g ho).2.1 with ⟨r', hl2, hd, ho'⟩ | e
    · by_cases er : r = r'
      · subst er; rw [hd] at hl; cases hl
      · exact absurd ho' (hg.apart r r' er hl' hl2 g ho)
    · exact e

theorem mkr_le (hg : Good w0 D0 E) {o2 : Objs} {w' : World} {D' : BSet} {id : Nat} {ob : Root} {l : Option (Nat × Nat)} {T : BSet} (h : MkOk w0 E o2 w' D' id l T) : E.Le (E.mkr o2 w' D' id ob l T) := by
  obtain ⟨h2, _, hD, hO⟩ := mkr_keep hg h
  have hne : ∀ r, E.objs r ≠ none → r ≠ id := fun r hr e => hr (e ▸ h.free)
  refine ⟨fun g hgD => ⟨h.dSub g hgD, hD g hgD⟩, ?_, ?_⟩
  · intro r hr
    simp only [Env.mkr]
    rw [upd_ne (hne r hr)]
    intro hn
    rcases h.dies r with e | ⟨e, _⟩
    · exact hr (e ▸ hn)
    · rw [e] at hn; cases hn
  · intro r hr o' ho' hnd
    simp only [Env.mkr] at ho' ⊢
    rw [upd_ne (hne r hr)] at ho' ⊢
    rw [upd_ne (hne r hr)]
    have hl : live (o2 r) = true := by rw [ho']; cases o' <;> first | rfl | exact absurd rfl hnd
    obtain ⟨e, l'⟩ := h.dies.live hl
    refine ⟨o', by rw [← e]; exact ho', rfl, fun g hg' => ⟨.inl hg', hO r hl g (.inl hg')⟩, by cases o' <;> simp_all, ?_⟩
    intro g q hq cur e' hc
    exact ⟨cur, e', (hO r hl g (.inr ⟨q, hq⟩)).trans hc, rfl⟩

theorem mkr_good (hg : Good w0 D0 E) {o2 : Objs} {w' : World} {D' : BSet} {id : Nat} {ob : Root} {l : Option (Nat × Nat)} {T : BSet} (h : MkOk w0 E o2 w' D' id l T)
    (hr : RootRep (E.mkr o2 w' D' id ob l T) id ob) : Good w0 D0 (E.mkr o2 w' D' id ob l T) := by
  obtain ⟨h2, hB, hD, hO⟩ := mkr_keep hg h
  have hle := mkr_le (ob := ob) hg h
  have hlive : ∀ r, r ≠ id → live ((E.mkr o2 w' D' id ob l T).objs r) = true → live (o2 r) = true ∧ live (E.objs r) = true := by
    intro r hne hl
    simp only [Env.mkr] at hl
    rw [upd_ne hne] at hl
    exact ⟨hl, (h.dies.live hl).2⟩
  have hown : ∀ r, r ≠ id → ∀ g, (E.mkr o2 w' D' id ob l T).own r g → E.own r g := by
    intro r hne g ho
    simpa [Env.own, Env.mkr, upd_ne hne] using ho
  have hownId : ∀ g, (E.mkr o2 w' D' id ob l T).own id g → (T g ∨ ∃ q, l = some (g, q)) := by
    intro g ho
    simpa [Env.own, Env.mkr, upd_same] using ho
  refine ⟨hB, ?_, fun g hg' => h.dSub g (hg.d0 g hg'), ?_, ?_, ?_, ?_, hg.tabs.keep hle.d⟩
  · intro g hg'
    rcases h.dNew g hg' with hd | ⟨r, hl, _, ho⟩ | ⟨h1, h3⟩
    · obtain ⟨q1, q2⟩ := hg.dIn g hd
      exact ⟨Nat.lt_of_lt_of_le q1 h2, q2⟩
    · obtain ⟨q1, q2, _⟩ := hg.ownIn r hl g ho
      exact ⟨Nat.lt_of_lt_of_le q2 h2, .inr q1⟩
    · exact ⟨h3, .inr h1.1⟩
  · intro r o ho
    by_cases e : r = id
    · subst e
      simp only [Env.mkr, upd_same, Option.some.injEq] at ho
      subst ho
      exact hr
    · by_cases hdead : o = .dead
      · subst hdead; trivial
      · have hl : live ((E.mkr o2 w' D' id ob l T).objs r) = true := by rw [ho]; cases o <;> first | rfl | exact absurd rfl hdead
        obtain ⟨l1, l2⟩ := hlive r e hl
        have ho' : E.objs r = some o := by
          rw [← (h.dies.live l1).1]
          simpa [Env.mkr, upd_ne e] using ho
        exact (hg.roots r o ho').le hle (by simp [Env.mkr, upd_ne e]) (by simp [Env.mkr, upd_ne e]) (fun g hg' => hO r l1 g hg')
  · intro r hl g ho
    by_cases e : r = id
    · subst e
      obtain ⟨q1, q2, q3⟩ := h.own g (hownId g ho)
      refine ⟨?_, q2, q3⟩
      rcases q1 with ⟨r', hl', _, ho'⟩ | q1
      · exact (hg.ownIn r' hl' g ho').1
      · exact q1.1
    · obtain ⟨l1, l2⟩ := hlive r e hl
      have ho' := hown r e g ho
      obtain ⟨q1, q2, q3⟩ := hg.ownIn r l2 g ho'
      refine ⟨q1, Nat.lt_of_lt_of_le q2 h2, fun hd => ?_⟩
      rcases h.dNew g hd with hd | ⟨r', hl', hdd, ho''⟩ | ⟨h1, _⟩
      · exact q3 hd
      · by_cases er : r = r'
        · subst er; rw [hdd] at l1; cases l1
        · exact hg.apart r r' er l2 hl' g ho' ho''
      · exact h1.2 r l2 ho'
  · intro r hl g q hq
    by_cases e : r = id
    · subst e
      simp only [Env.mkr, upd_same] at hq ⊢
      exact h.ownS g q hq
    · obtain ⟨l1, l2⟩ := hlive r e hl
      simp only [Env.mkr, upd_ne e] at hq ⊢
      exact hg.ownS r l2 g q hq
  · have cross : ∀ r, r ≠ id → live (o2 r) = true → live (E.objs r) = true → ∀ g, E.own r g → ¬ (T g ∨ ∃ q, l = some (g, q)) := by
      intro r e l1 l2 g ho hn
      obtain ⟨q1, _, _⟩ := h.own g hn
      rcases q1 with ⟨r', hl', hdd, ho'⟩ | q1
      · by_cases er : r = r'
        · subst er; rw [hdd] at l1; cases l1
        · exact hg.apart r r' er l2 hl' g ho ho'
      · exact q1.2 r l2 ho
    intro r r' hne hl hl' g ho ho'
    by_cases e : r = id
    · have e' : r' ≠ id := fun h => hne (e.trans h.symm)
      obtain ⟨l1, l2⟩ := hlive r' e' hl'
      subst e
      exact cross r' e' l1 l2 g (hown r' e' g ho') (hownId g ho)
    · obtain ⟨l1, l2⟩ := hlive r e hl
      by_cases e' : r' = id
      · subst e'
        exact cross r e l1 l2 g (hown r e g ho) (hownId g ho')
      · obtain ⟨l1', l2'⟩ := hlive r' e' hl'
        exact hg.apart r r' hne l2 l2' g (hown r e g ho) (hown r' e' g ho')
end
end Go.Ab
