import Derived.Test.YtpnmhfbiaajaeaaGreatDoorA0
import Derived.Test.YtpnmhfbiaajaeaaGreatDoorTB
set_option linter.unusedVariables false
set_option linter.unusedSimpArgs false
namespace Go.Ab
open Go.RowKit
inductive AV where
 | val (src : Option Nat) (v : V)
 | sl (r off len : Nat)
 | ptr (r i f : Nat)
 | agg (cs : List AV)
 | tup (cs : List AV)
 | fn (f : FuncId) (caps : List AV)
 | bad
 | ub
 | mp (r : Nat)
 | e0
 deriving Inhabited
abbrev AV.undef : AV := .tup []
inductive Root where
 | row (own : Bool) (sz : Nat) (L : List V)
 | box (cs : List AV)
 | dead
 | map (es : List (Sc × Sc))
 deriving Inhabited
def live : Option Root → Bool
 | some (.row _ _ _) => true
 | some (.box _) => true
 | some (.map _) => true
 | _ => false
def cel : Option Root → Bool
 | some (.row _ _ _) => true
 | some (.box _) => true
 | _ => false
theorem cel_some {o : Option Root} (h : cel o = true) : ∃ r, o = some r ∧ r ≠ .dead ∧ ∀ es, r ≠ .map es := by
 cases o with
 | none => cases h
 | some o => cases o <;> first | (cases h; done) | exact ⟨_, rfl, (fun h => by cases h), (fun _ h => by cases h)⟩
structure St where
 tmps : Nat → AV
 objs : Nat → Option Root
 next : Nat
 lk : Option (Nat × Nat × Nat × Nat)
def upd {α : Type} (f : Nat → α) (d : Nat) (v : α) : Nat → α := fun t => if t = d then v else f t
theorem upd_same {α : Type} (f : Nat → α) (d : Nat) (v : α) : upd f d v d = v := by simp [upd]
theorem upd_ne {α : Type} {f : Nat → α} {d t : Nat} {v : α} (h : t ≠ d) : upd f d v t = f t := by simp [upd, h]
structure Base where
 w : World
 h : BSet
 x : Value
structure Fr where
 n : Nat
 pin : Bool
def Base.new (b : Base) (g : Nat) : Prop := b.w.heap.size ≤ g ∨ b.h g
structure Stays (b : Base) (w' : World) : Prop where
 os : w'.os = b.w.os
 tape : w'.tape = b.w.tape
 output : w'.output = b.w.output
 size : b.w.heap.size ≤ w'.heap.size
 block : ∀ k : Nat, k < b.w.heap.size → ¬ b.h k → w'.heap[k]? = b.w.heap[k]?
 held : ∀ (k : Nat) (cur : Array Value) (e : TypeId), b.w.heap[k]? = some (.cells cur e (0, 0)) → ∃ cur' e', w'.heap[k]? = some (.cells cur' e' (0, 0)) ∧ cur'.size = cur.size
theorem Stays.refl (b : Base) : Stays b b.w := ⟨rfl, rfl, rfl, Nat.le_refl _, fun _ _ _ => rfl, fun k cur e h => ⟨cur, e, h, rfl⟩⟩
theorem Stays.trans {b : Base} {w w' : World} {S : BSet} {x : Value} (h : Stays b w) (h' : Stays ⟨w, S, x⟩ w') (hS : ∀ g, S g → b.new g) : Stays b w' := by
 refine ⟨h'.os.trans h.os, h'.tape.trans h.tape, h'.output.trans h.output, Nat.le_trans h.size h'.size, ?_, ?_⟩
 ·intro k hk hn
  refine (h'.block k (Nat.lt_of_lt_of_le hk h.size) (fun hs => ?_)).trans (h.block k hk hn)
  rcases hS k hs with h1 | h1
  ·omega
  ·exact hn h1
 ·intro k cur e hc
  obtain ⟨c1, e1, h1, s1⟩ := h.held k cur e hc
  obtain ⟨c2, e2, h2, s2⟩ := h'.held k c1 e1 h1
  exact ⟨c2, e2, h2, s2.trans s1⟩
theorem stays_of_below {w w' : World} {S : BSet} {x : Value} (h : Below w.heap.size w w') : Stays ⟨w, S, x⟩ w' :=
 ⟨h.os, h.tape, h.output, h.size, fun k hk _ => h.block k hk, fun k cur e hc => by
  have hk : k < w.heap.size := by
   rcases Nat.lt_or_ge k w.heap.size with h | h
   ·exact h
   ·rw [Array.getElem?_eq_none h] at hc; cases hc
  exact ⟨cur, e, (h.block k hk).trans hc, rfl⟩⟩
theorem Stays.below {b : Base} {w w' : World} (h : Stays b w) (h' : Below w.heap.size w w') : Stays b w' := h.trans (S := Emp) (x := b.x) (stays_of_below h') (fun _ h => h.elim)
theorem below_of_stays {b : Base} {w' : World} (h : Stays b w') (he : ∀ g, ¬ b.h g) : Below b.w.heap.size b.w w' := ⟨h.os, h.tape, h.output, h.size, fun k hk => h.block k hk (he k)⟩
def Tabs (w : World) (D : BSet) : Prop := ∃ B, (∀ g, g < B → D g) ∧ ∀ w' : World, (∀ g, g < B → w'.heap[g]? = w.heap[g]?) → TabQ w'
theorem Tabs.q {w : World} {D : BSet} (h : Tabs w D) : TabQ w := by
 obtain ⟨B, _, h2⟩ := h
 exact h2 w (fun _ _ => rfl)
theorem Tabs.keep {w w' : World} {D D' : BSet} (h : Tabs w D) (hD : ∀ g, D g → D' g ∧ w'.heap[g]? = w.heap[g]?) : Tabs w' D' := by
 obtain ⟨B, h1, h2⟩ := h
 exact ⟨B, fun g hg => (hD g (h1 g hg)).1, fun w2 hw2 => h2 w2 (fun g hg => (hw2 g hg).trans (hD g (h1 g hg)).2)⟩
theorem Tabs.mono {w : World} {D D' : BSet} (h : Tabs w D) (hD : ∀ g, D g → D' g) : Tabs w D' := h.keep (fun g hg => ⟨hD g hg, rfl⟩)
structure DOk (w : World) (D : BSet) : Prop where
 lt : ∀ g, D g → g < w.heap.size
 tabs : Tabs w D
structure Env where
 w : World
 D : BSet
 S : Nat → BSet
 loc : Nat → Option (Nat × Nat)
 objs : Nat → Option Root
def SlAt (w : World) (l : Option (Nat × Nat)) (sz off len tot : Nat) (x : Value) : Prop :=
 match l with
 | none => (∃ ad, x = .slice ad 0 0) ∧ len = 0
 | some (g, o) => ∃ a c, x = .slice a len c ∧ len ≤ c ∧ c ≤ maxLen ∧ (c ≠ 0 → a = some ⟨g, o + off * sz, none⟩) ∧ (c = 0 → a = none ∨ ∃ o', a = some ⟨g, o', none⟩) ∧ tot ≤ off + c ∧
   ∃ cur e, w.heap[g]? = some (.cells cur e (0, 0)) ∧ (c ≠ 0 → o + (off + c) * sz ≤ cur.size)
mutual
inductive AvRep (E : Env) : AV → Value → Prop
 | val0 {v : V} {x : Value} (h : Rep E.w E.D false v x Emp) : AvRep E (.val none v) x
 | val1 {r : Nat} {v : V} {x : Value} (hr : E.objs r ≠ none) (h : live (E.objs r) = true → Rep E.w (fun g => E.D g ∨ E.S r g) false v x Emp) : AvRep E (.val (some r) v) x
 | sl {r off len : Nat} {x : Value} (hr : E.objs r ≠ none) (h : ∀ own sz L, E.objs r = some (.row own sz L) → off + len ≤ L.length ∧ SlAt E.w (E.loc r) sz off len L.length x) : AvRep E (.sl r off len) x
 | ptrRow {r i f : Nat} {x : Value} (hr : E.objs r ≠ none) (h : ∀ own sz L, E.objs r = some (.row own sz L) → i < L.length ∧ ∃ g o, E.loc r = some (g, o) ∧ x = .pointer (some ⟨g, o + i * sz + f, none⟩))
   (h' : ∀ cs, E.objs r = some (.box cs) → i = 0 ∧ ∃ g, E.loc r = some (g, 0) ∧ x = .pointer (some ⟨g, f, none⟩)) : AvRep E (.ptr r i f) x
 | agg {cs : List AV} {vs : List Value} (h1 : ∀ v ∈ vs, v.oneCell' = true) (h : AvReps E cs vs) : AvRep E (.agg cs) (.agg vs.toArray)
 | tup {cs : List AV} {vs : List Value} (h : AvReps E cs vs) : AvRep E (.tup cs) (.tuple vs.toArray)
 | fn {f : FuncId} {cs : List AV} {vs : List Value} (h : AvReps E cs vs) : AvRep E (.fn f cs) (.func (.func f) #[] vs.toArray)
 | bad {x : Value} : AvRep E .bad x
 | ub {b : Bool} : AvRep E .ub (.bool b)
 | e0 {ad : Option Addr} : AvRep E .e0 (.slice ad 0 0)
 | mp {r : Nat} {x : Value} (hr : E.objs r ≠ none) (h : ∀ es, E.objs r = some (.map es) → ∃ g, E.loc r = some (g, 0) ∧ x = .map (some g)) : AvRep E (.mp r) x
inductive AvReps (E : Env) : List AV → List Value → Prop
 | nil : AvReps E [] []
 | cons {c : AV} {v : Value} {cs : List AV} {vs : List Value} (h : AvRep E c v) (hs : AvReps E cs vs) : AvReps E (c :: cs) (v :: vs)
end
def RootRep (E : Env) (r : Nat) : Root → Prop
 | .row own sz L =>
  (match E.loc r with
   | none => L = []
   | some (g, o) => ∃ vs, BlkO E.w g o vs ∧ Uni sz L ∧ Reps E.w E.D own (L.flatMap V.cells) vs (E.S r))
 | .box cs => ∃ g cur e, E.loc r = some (g, 0) ∧ E.w.heap[g]? = some (.cells cur e (0, 0)) ∧ AvReps E cs cur.toList ∧ ∀ c ∈ cur.toList, c.oneCell' = true
 | .dead => True
 | .map es => ∃ g, E.loc r = some (g, 0) ∧ E.w.heap[g]? = some (.map (ents 0 es).toArray es.length)
def Env.own (E : Env) (r : Nat) (g : Nat) : Prop := E.S r g ∨ ∃ o, E.loc r = some (g, o)
structure Good (w0 : Base) (D0 : BSet) (E : Env) : Prop where
 below : Stays w0 E.w
 dIn : ∀ g, E.D g → g < E.w.heap.size ∧ (D0 g ∨ w0.new g)
 d0 : ∀ g, D0 g → E.D g
 roots : ∀ r o, E.objs r = some o → RootRep E r o
 ownIn : ∀ r, live (E.objs r) = true → ∀ g, E.own r g → w0.new g ∧ g < E.w.heap.size ∧ ¬ E.D g
 ownS : ∀ r, live (E.objs r) = true → ∀ g o, E.loc r = some (g, o) → ¬ E.S r g
 apart : ∀ r r', r ≠ r' → live (E.objs r) = true → live (E.objs r') = true → ∀ g, E.own r g → ¬ E.own r' g
 tabs : Tabs E.w E.D
def Link (E : Env) (r i f : Nat) (x : Value) : Prop := ∃ sz L e z T g o cur ty, E.objs r = some (.row true sz L) ∧ L[i]? = some e ∧ e.cells[f]? = some (.sl z T) ∧ E.loc r = some (g, o) ∧ E.w.heap[g]? = some (.cells cur ty (0, 0)) ∧ cur[o + i * sz + f]? = some x
structure SimE (N : Fr) (w0 : Base) (D0 : BSet) (E : Env) (st : St) (a : Act) (w : World) : Prop where
 good : Good w0 D0 E
 ew : E.w = w
 eo : E.objs = st.objs
 size : N.n ≤ a.tmps.size
 defers : a.defers = []
 tmps : ∀ t, AvRep E (st.tmps t) (a.tmps.getD t undef)
 fix : N.pin = true → a.tmps.getD 0 undef = w0.x
 lk : ∀ t r i f, st.lk = some (t, r, i, f) → Link E r i f (a.tmps.getD t undef)
def Sim (N : Fr) (w0 : Base) (D0 : BSet) (st : St) (a : Act) (w : World) : Prop := ∃ E, SimE N w0 D0 E st a w ∧ ∀ r, st.next ≤ r → st.objs r = none
structure Env.Le (E E' : Env) : Prop where
 d : ∀ g, E.D g → E'.D g ∧ E'.w.heap[g]? = E.w.heap[g]?
 known : ∀ r, E.objs r ≠ none → E'.objs r ≠ none
 old : ∀ r, E.objs r ≠ none → ∀ o', E'.objs r = some o' → o' ≠ .dead → ∃ o, E.objs r = some o ∧ E'.loc r = E.loc r ∧
   (∀ g, E.S r g → (E'.S r g ∨ E'.D g) ∧ E'.w.heap[g]? = E.w.heap[g]?) ∧
   (match o, o' with
    | .row _ sz L, .row _ sz' L' => sz' = sz ∧ L'.length = L.length
    | .box _, .box _ => True
    | .map _, .map _ => True
    | _, _ => False) ∧
   (∀ g q, E.loc r = some (g, q) → ∀ cur e, E.w.heap[g]? = some (.cells cur e (0, 0)) → ∃ cur' e', E'.w.heap[g]? = some (.cells cur' e' (0, 0)) ∧ cur'.size = cur.size)
theorem SlAt.keep {w w' : World} {l : Option (Nat × Nat)} {sz off len tot : Nat} {x : Value} (h : SlAt w l sz off len tot x)
  (hk : ∀ g q, l = some (g, q) → ∀ cur e, w.heap[g]? = some (.cells cur e (0, 0)) → ∃ cur' e', w'.heap[g]? = some (.cells cur' e' (0, 0)) ∧ cur'.size = cur.size) : SlAt w' l sz off len tot x := by
 unfold SlAt at *
 split
 ·exact h
 ·rename_i g o
  obtain ⟨a, c, hx, hl, hm, h1, h2, ht, cur, e, hh, hs⟩ := h
  obtain ⟨cur', e', hh', hs'⟩ := hk g o rfl cur e hh
  exact ⟨a, c, hx, hl, hm, h1, h2, ht, cur', e', hh', by rw [hs']; exact hs⟩
theorem live_some {o : Option Root} (h : live o = true) : ∃ r, o = some r ∧ r ≠ .dead := by
 match o with
 | some (.row _ _ _) => exact ⟨_, rfl, by simp⟩
 | some (.box _) => exact ⟨_, rfl, by simp⟩
 | some (.map _) => exact ⟨_, rfl, by simp⟩
mutual
theorem AvRep.le {E E' : Env} (hE : E.Le E') : ∀ {c : AV} {x : Value}, AvRep E c x → AvRep E' c x
 | _, _, .val0 h => .val0 (h.keep hE.d (fun h => by cases h))
 | _, _, .val1 (r := r) hr h => .val1 (hE.known r hr) (fun hs => by
   obtain ⟨o', ho', hnd⟩ := live_some hs
   obtain ⟨o, ho, hl, hS, hsh, _⟩ := hE.old r hr o' ho' hnd
   refine (h ?_).keep ?_ (fun h => by cases h)
   ·rw [ho]
    cases o <;> first | rfl | (cases o' <;> exact hsh.elim)
   rintro g (hg | hg)
   ·exact ⟨Or.inl (hE.d g hg).1, (hE.d g hg).2⟩
   ·exact ⟨(hS g hg).1.elim Or.inr Or.inl, (hS g hg).2⟩)
 | _, _, .sl (r := r) hr h => .sl (hE.known r hr) (fun own sz L ho' => by
   obtain ⟨o, ho, hl, _, hsh, hb⟩ := hE.old r hr _ ho' (by simp)
   cases o with
   | box cs => exact hsh.elim
   | dead => exact hsh.elim
   | map _ => exact hsh.elim
   | row own0 sz0 L0 =>
    obtain ⟨rfl, hL⟩ := hsh
    obtain ⟨h1, h2⟩ := h _ _ _ ho
    rw [hL, hl]
    exact ⟨h1, h2.keep hb⟩)
 | _, _, .ptrRow (r := r) hr h h' => .ptrRow (hE.known r hr) (fun own sz L ho' => by
   obtain ⟨o, ho, hl, _, hsh, hb⟩ := hE.old r hr _ ho' (by simp)
   cases o with
   | box cs => exact hsh.elim
   | dead => exact hsh.elim
   | map _ => exact hsh.elim
   | row own0 sz0 L0 =>
    obtain ⟨rfl, hL⟩ := hsh
    obtain ⟨h1, h2⟩ := h _ _ _ ho
    rw [hL, hl]
    exact ⟨h1, h2⟩) (fun cs ho' => by
   obtain ⟨o, ho, hl, _, hsh, hb⟩ := hE.old r hr _ ho' (by simp)
   cases o with
   | row _ _ _ => exact hsh.elim
   | dead => exact hsh.elim
   | map _ => exact hsh.elim
   | box cs0 =>
    rw [hl]
    exact h' _ ho)
 | _, _, .agg h1 h => .agg h1 (AvReps.le hE h)
 | _, _, .tup h => .tup (AvReps.le hE h)
 | _, _, .fn h => .fn (AvReps.le hE h)
 | _, _, .bad => .bad
 | _, _, .ub => .ub
 | _, _, .e0 => .e0
 | _, _, .mp (r := r) hr h => .mp (hE.known r hr) (fun es ho' => by
   obtain ⟨o, ho, hl, _, hsh, hb⟩ := hE.old r hr _ ho' (by simp)
   cases o with
   | row _ _ _ => exact hsh.elim
   | dead => exact hsh.elim
   | box _ => exact hsh.elim
   | map es0 =>
    rw [hl]
    exact h _ ho)
theorem AvReps.le {E E' : Env} (hE : E.Le E') : ∀ {c : List AV} {x : List Value}, AvReps E c x → AvReps E' c x
 | _, _, .nil => .nil
 | _, _, .cons h hs => .cons (AvRep.le hE h) (AvReps.le hE hs)
end
theorem Env.Le.refl (E : Env) : E.Le E := ⟨fun _ h => ⟨h, rfl⟩, fun _ h => h, fun r _ o' ho' hnd => ⟨o', ho', rfl, fun _ h => ⟨.inl h, rfl⟩, by cases o' <;> simp_all, fun g q _ cur e h => ⟨cur, e, h, rfl⟩⟩⟩
theorem AvReps.length {E : Env} : ∀ {c : List AV} {x : List Value}, AvReps E c x → c.length = x.length
 | _, _, .nil => rfl
 | _, _, .cons _ h => by simp [AvReps.length h]
theorem AvReps.get {E : Env} : ∀ {c : List AV} {x : List Value}, AvReps E c x → ∀ {j : Nat} {u : AV}, c[j]? = some u → ∃ y, x[j]? = some y ∧ AvRep E u y
 | _, _, .nil, j, u, h => by simp at h
 | _, _, .cons h1 h2, 0, u, h => by
  simp at h
  subst h
  exact ⟨_, rfl, h1⟩
 | _, _, .cons h1 h2, j + 1, u, h => by
  simp at h
  obtain ⟨y, hy, hr⟩ := AvReps.get h2 h
  exact ⟨y, by simpa using hy, hr⟩
theorem AvReps.drop {E : Env} : ∀ (n : Nat) {c : List AV} {x : List Value}, AvReps E c x → AvReps E (c.drop n) (x.drop n)
 | 0, _, _, h => by simpa using h
 | n + 1, _, _, .nil => by simpa using AvReps.nil
 | n + 1, _, _, .cons _ h => by simpa using AvReps.drop n h
theorem AvReps.take {E : Env} : ∀ (n : Nat) {c : List AV} {x : List Value}, AvReps E c x → AvReps E (c.take n) (x.take n)
 | 0, _, _, h => by simpa using AvReps.nil
 | n + 1, _, _, .nil => by simpa using AvReps.nil
 | n + 1, _, _, .cons h1 h => by simpa using AvReps.cons h1 (AvReps.take n h)
theorem AvReps.append {E : Env} : ∀ {c : List AV} {x : List Value} {c' : List AV} {x' : List Value}, AvReps E c x → AvReps E c' x' → AvReps E (c ++ c') (x ++ x')
 | _, _, _, _, .nil, h' => h'
 | _, _, _, _, .cons h1 h, h' => .cons h1 (AvReps.append h h')
theorem Reps.drop {w : World} {D : BSet} : ∀ (n : Nat) {o : Bool} {c : List V} {x : List Value} {S : BSet}, Reps w D o c x S → Reps w D o (c.drop n) (x.drop n) S
 | 0, _, _, _, _, h => by simpa using h
 | n + 1, _, _, _, _, .nil => by simpa using Reps.nil
 | n + 1, _, _, _, _, .cons _ h _ _ hs => by simpa using (Reps.drop n h).wide hs
theorem Reps.take {w : World} {D : BSet} : ∀ (n : Nat) {o : Bool} {c : List V} {x : List Value} {S : BSet}, Reps w D o c x S → Reps w D o (c.take n) (x.take n) S
 | 0, _, _, _, _, h => by simpa using Reps.nil
 | n + 1, _, _, _, _, .nil => by simpa using Reps.nil
 | n + 1, _, _, _, _, .cons h1 h hd h2 hs => by simpa using Reps.cons h1 (Reps.take n h) hd h2 hs
end Go.Ab
