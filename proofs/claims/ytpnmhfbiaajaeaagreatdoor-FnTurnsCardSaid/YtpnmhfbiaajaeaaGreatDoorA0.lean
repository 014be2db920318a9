import Derived.Orders
import Derived.Tactics
import Derived.Below
import Derived.Laws.AppendOwn
import Derived.WalkKit
set_option linter.unusedVariables false
set_option linter.unusedSimpArgs false
namespace Go.Ab
inductive Sc where
 | int (k : IntKind) (n : Int)
 | bool (b : Bool)
 | str (s : List UInt8)
 deriving Inhabited, DecidableEq
def Sc.val : Sc → Value
 | .int k n => .int k n
 | .bool b => .bool b
 | .str s => .string ⟨s.toArray⟩
def ents : Nat → List (Sc × Sc) → List MapEntry
 | _, [] => []
 | i, (k, v) :: l => ⟨k.val, v.val, i⟩ :: ents (i + 1) l
inductive V where
 | int (k : IntKind) (n : Int)
 | bool (b : Bool)
 | str (s : List UInt8)
 | sl (sz : Nat) (L : List V)
 | agg (cs : List V)
 | ptr (cs : List V)
 | fn (f : FuncId) (caps : List V)
 | mp (es : List (Sc × Sc))
 deriving Inhabited
def Sc.v : Sc → V
 | .int k n => .int k n
 | .bool b => .bool b
 | .str s => .str s
def V.sc : V → Option Sc
 | .int k n => some (.int k n)
 | .bool b => some (.bool b)
 | .str s => some (.str s)
 | _ => none
def V.cells : V → List V
 | .agg cs => cs
 | v => [v]
def V.one : V → Bool
 | .agg _ => false
 | _ => true
def Uni (sz : Nat) (L : List V) : Prop := ∀ x ∈ L, x.cells.length = sz ∧ ∀ c ∈ x.cells, V.one c = true
abbrev BSet := Nat → Prop
def Emp : BSet := fun _ => False
def Blk (w : World) (g off : Nat) (vs : List Value) : Prop :=
 ∃ cur e fz, w.heap[g]? = some (.cells cur e fz) ∧ ∀ j u, vs[j]? = some u → cur[off + j]? = some u
def BlkO (w : World) (g off : Nat) (vs : List Value) : Prop :=
 ∃ cur e, w.heap[g]? = some (.cells cur e (0, 0)) ∧ ∀ j u, vs[j]? = some u → cur[off + j]? = some u
theorem BlkO.blk {w : World} {g off : Nat} {vs : List Value} (h : BlkO w g off vs) : Blk w g off vs := by
 obtain ⟨cur, e, h1, h2⟩ := h
 exact ⟨cur, e, _, h1, h2⟩
mutual
inductive Rep (w : World) (D : BSet) : Bool → V → Value → BSet → Prop
 | int {o S} (k : IntKind) (n : Int) : Rep w D o (.int k n) (.int k n) S
 | bool {o S} (b : Bool) : Rep w D o (.bool b) (.bool b) S
 | str {o S} (s : List UInt8) : Rep w D o (.str s) (.string ⟨s.toArray⟩) S
 | agg {o S} {cs : List V} {vs : List Value} (h1 : ∀ c ∈ cs, V.one c = true) (h : Reps w D o cs vs S) : Rep w D o (.agg cs) (.agg vs.toArray) S
 | nil {o S} {ad : Option Addr} (sz : Nat) : Rep w D o (.sl sz []) (.slice ad 0 0) S
 | slro {S} {sz : Nat} {L : List V} {g off c : Nat} {vs : List Value} (hD : D g) (hb : Blk w g off vs) (hu : Uni sz L) (h : Reps w D false (L.flatMap V.cells) vs Emp)
   (hc : L.length ≤ c) (hm : c ≤ maxLen) : Rep w D false (.sl sz L) (.slice (some ⟨g, off, none⟩) L.length c) S
 | slow {S T : BSet} {sz : Nat} {L : List V} {g off c : Nat} {vs : List Value} (hS : S g) (hT : ∀ x, T x → S x) (hg : ¬ T g) (hb : BlkO w g off vs) (hu : Uni sz L)
   (h : Reps w D true (L.flatMap V.cells) vs T) (hc : L.length ≤ c) (hm : c ≤ maxLen) (hz : ∃ cur e, w.heap[g]? = some (.cells cur e (0, 0)) ∧ (c ≠ 0 → off + c * sz ≤ cur.size)) : Rep w D true (.sl sz L) (.slice (some ⟨g, off, none⟩) L.length c) S
 | ptr {S} {cs : List V} {g off : Nat} {vs : List Value} (hD : D g) (hb : Blk w g off vs) (h1 : ∀ c ∈ cs, V.one c = true) (h : Reps w D false cs vs Emp) : Rep w D false (.ptr cs) (.pointer (some ⟨g, off, none⟩)) S
 | fn {S} {f : FuncId} {caps : List V} {vs : List Value} (h : Reps w D false caps vs Emp) : Rep w D false (.fn f caps) (.func (.func f) #[] vs.toArray) S
 | mp {S} {es : List (Sc × Sc)} {g : Nat} (hD : D g) (hb : w.heap[g]? = some (.map (ents 0 es).toArray es.length)) : Rep w D false (.mp es) (.map (some g)) S
inductive Reps (w : World) (D : BSet) : Bool → List V → List Value → BSet → Prop
 | nil {o S} : Reps w D o [] [] S
 | cons {o : Bool} {S S1 S2 : BSet} {x : V} {v : Value} {xs : List V} {vs : List Value} (h1 : Rep w D o x v S1) (h2 : Reps w D o xs vs S2) (hd : ∀ g, S1 g → ¬ S2 g) (hs1 : ∀ g, S1 g → S g) (hs2 : ∀ g, S2 g → S g) :
   Reps w D o (x :: xs) (v :: vs) S
end
theorem Blk.keep {w w' : World} {g off : Nat} {vs : List Value} (h : Blk w g off vs) (hw : w'.heap[g]? = w.heap[g]?) : Blk w' g off vs := by
 obtain ⟨cur, e, fz, h1, h2⟩ := h
 exact ⟨cur, e, fz, hw.trans h1, h2⟩
theorem BlkO.keep {w w' : World} {g off : Nat} {vs : List Value} (h : BlkO w g off vs) (hw : w'.heap[g]? = w.heap[g]?) : BlkO w' g off vs := by
 obtain ⟨cur, e, h1, h2⟩ := h
 exact ⟨cur, e, hw.trans h1, h2⟩
mutual
theorem Rep.keep {w w' : World} {D D' : BSet} (hD : ∀ g, D g → D' g ∧ w'.heap[g]? = w.heap[g]?) :
  ∀ {o : Bool} {v : V} {x : Value} {S : BSet}, Rep w D o v x S → (o = true → ∀ g, S g → w'.heap[g]? = w.heap[g]?) → Rep w' D' o v x S
 | _, _, _, _, .int k n, _ => .int k n
 | _, _, _, _, .bool b, _ => .bool b
 | _, _, _, _, .str s, _ => .str s
 | _, _, _, _, .agg h1 h, hS => .agg h1 (Reps.keep hD h hS)
 | _, _, _, _, .nil sz, _ => .nil sz
 | _, _, _, _, .slro hg hb hu h hc hm, _ => .slro (hD _ hg).1 (hb.keep (hD _ hg).2) hu (Reps.keep hD h (fun h => by cases h)) hc hm
 | _, _, _, _, .slow hS hT hg hb hu h hc hm hz, k => .slow hS hT hg (hb.keep (k rfl _ hS)) hu (Reps.keep hD h (fun _ g hg => k rfl g (hT g hg))) hc hm (by rw [k rfl _ hS]; exact hz)
 | _, _, _, _, .ptr hg hb h1 h, _ => .ptr (hD _ hg).1 (hb.keep (hD _ hg).2) h1 (Reps.keep hD h (fun h => by cases h))
 | _, _, _, _, .fn h, _ => .fn (Reps.keep hD h (fun h => by cases h))
 | _, _, _, _, .mp hg hb, _ => .mp (hD _ hg).1 ((hD _ hg).2.trans hb)
theorem Reps.keep {w w' : World} {D D' : BSet} (hD : ∀ g, D g → D' g ∧ w'.heap[g]? = w.heap[g]?) :
  ∀ {o : Bool} {v : List V} {x : List Value} {S : BSet}, Reps w D o v x S → (o = true → ∀ g, S g → w'.heap[g]? = w.heap[g]?) → Reps w' D' o v x S
 | _, _, _, _, .nil, _ => .nil
 | _, _, _, _, .cons h1 h2 hd hs1 hs2, hS => .cons (Rep.keep hD h1 (fun ho g hg => hS ho g (hs1 g hg))) (Reps.keep hD h2 (fun ho g hg => hS ho g (hs2 g hg))) hd hs1 hs2
end
theorem Rep.wide {w : World} {D : BSet} {o : Bool} {v : V} {x : Value} {S S' : BSet} (h : Rep w D o v x S) (hS : ∀ g, S g → S' g) : Rep w D o v x S' := by
 cases h with
 | int => exact .int _ _
 | bool => exact .bool _
 | str => exact .str _
 | agg h1 h =>
  refine .agg h1 ?_
  cases h with
  | nil => exact .nil
  | cons k1 k2 hd hs1 hs2 => exact .cons k1 k2 hd (fun g hg => hS g (hs1 g hg)) (fun g hg => hS g (hs2 g hg))
 | nil => exact .nil _
 | slro hg hb hu h hc hm => exact .slro hg hb hu h hc hm
 | slow h1 hT hg hb hu h hc hm hz => exact .slow (hS _ h1) (fun g hg => hS g (hT g hg)) hg hb hu h hc hm hz
 | ptr hg hb h1 h => exact .ptr hg hb h1 h
 | fn h => exact .fn h
 | mp hg hb => exact .mp hg hb
theorem Reps.wide {w : World} {D : BSet} {o : Bool} {v : List V} {x : List Value} {S S' : BSet} (h : Reps w D o v x S) (hS : ∀ g, S g → S' g) : Reps w D o v x S' := by
 cases h with
 | nil => exact .nil
 | cons h1 h2 hd hs1 hs2 => exact .cons h1 h2 hd (fun g hg => hS g (hs1 g hg)) (fun g hg => hS g (hs2 g hg))
mutual
theorem Rep.lend {w : World} {D D' : BSet} (hD : ∀ g, D g → D' g) : ∀ {o : Bool} {v : V} {x : Value} {S : BSet}, Rep w D o v x S → (o = true → ∀ g, S g → D' g) → Rep w D' false v x Emp
 | _, _, _, _, .int k n, _ => .int k n
 | _, _, _, _, .bool b, _ => .bool b
 | _, _, _, _, .str s, _ => .str s
 | _, _, _, _, .agg h1 h, hS => .agg h1 (Reps.lend hD h hS)
 | _, _, _, _, .nil sz, _ => .nil sz
 | _, _, _, _, .slro hg hb hu h hc hm, _ => .slro (hD _ hg) hb hu (Reps.lend hD h (fun h => by cases h)) hc hm
 | _, _, _, _, .slow hS hT hg hb hu h hc hm hz, k => .slro (k rfl _ hS) hb.blk hu (Reps.lend hD h (fun _ g hg => k rfl g (hT g hg))) hc hm
 | _, _, _, _, .ptr hg hb h1 h, _ => .ptr (hD _ hg) hb h1 (Reps.lend hD h (fun h => by cases h))
 | _, _, _, _, .fn h, _ => .fn (Reps.lend hD h (fun h => by cases h))
 | _, _, _, _, .mp hg hb, _ => .mp (hD _ hg) hb
theorem Reps.lend {w : World} {D D' : BSet} (hD : ∀ g, D g → D' g) : ∀ {o : Bool} {v : List V} {x : List Value} {S : BSet}, Reps w D o v x S → (o = true → ∀ g, S g → D' g) → Reps w D' false v x Emp
 | _, _, _, _, .nil, _ => .nil
 | _, _, _, _, .cons h1 h2 hd hs1 hs2, hS => .cons (Rep.lend hD h1 (fun ho g hg => hS ho g (hs1 g hg))) (Reps.lend hD h2 (fun ho g hg => hS ho g (hs2 g hg))) (fun _ h => h.elim) (fun _ h => h.elim) (fun _ h => h.elim)
end
theorem Rep.ro {w : World} {D : BSet} {v : V} {x : Value} {S S' : BSet} (h : Rep w D false v x S) : Rep w D false v x S' :=
 (Rep.lend (fun _ h => h) h (fun h => by cases h)).wide (fun _ h => h.elim)
theorem Reps.ro {w : World} {D : BSet} {v : List V} {x : List Value} {S S' : BSet} (h : Reps w D false v x S) : Reps w D false v x S' :=
 (Reps.lend (fun _ h => h) h (fun h => by cases h)).wide (fun _ h => h.elim)
theorem Reps.length {w : World} {D : BSet} : ∀ {o : Bool} {v : List V} {x : List Value} {S : BSet}, Reps w D o v x S → v.length = x.length
 | _, _, _, _, .nil => rfl
 | _, _, _, _, .cons _ h2 _ _ _ => by simp [Reps.length h2]
theorem Reps.get {w : World} {D : BSet} : ∀ {o : Bool} {v : List V} {x : List Value} {S : BSet}, Reps w D o v x S → ∀ {j : Nat} {u : V}, v[j]? = some u → ∃ y, x[j]? = some y ∧ Rep w D o u y S
 | _, _, _, _, .nil, j, u, h => by simp at h
 | _, _, _, _, .cons h1 h2 _ hs1 hs2, 0, u, h => by
  simp at h
  subst h
  exact ⟨_, rfl, h1.wide hs1⟩
 | _, _, _, _, .cons h1 h2 _ hs1 hs2, j + 1, u, h => by
  simp at h
  obtain ⟨y, hy, hr⟩ := Reps.get h2 h
  exact ⟨y, by simpa using hy, hr.wide hs2⟩
theorem Reps.append {w : World} {D : BSet} : ∀ {o : Bool} {v v' : List V} {x x' : List Value} {S S1 S2 : BSet}, Reps w D o v x S1 → Reps w D o v' x' S2 → (∀ g, S1 g → ¬ S2 g) → (∀ g, S1 g → S g) → (∀ g, S2 g → S g) → Reps w D o (v ++ v') (x ++ x') S
 | _, _, _, _, _, S, S1, S2, .nil, h', _, _, hs => h'.wide hs
 | _, _, _, _, _, S, S1, S2, .cons h1 h2 hd hs1 hs2, h', hdd, hS1, hS2 => by
  refine .cons h1 (Reps.append h2 h' (fun g hg => hdd g (hs2 g hg)) (S := fun g => S2 g ∨ (S1 g ∧ _)) (fun g hg => Or.inr ⟨hs2 g hg, hg⟩) (fun g hg => Or.inl hg)) ?_ (fun g hg => hS1 g (hs1 g hg)) ?_
  ·rintro g hg (h | ⟨_, h⟩)
   ·exact hdd g (hs1 g hg) h
   ·exact hd g hg h
  ·rintro g (h | ⟨h, _⟩)
   ·exact hS2 g h
   ·exact hS1 g h
theorem Reps.split {w : World} {D : BSet} : ∀ {o : Bool} {v v' : List V} {z : List Value} {S : BSet}, Reps w D o (v ++ v') z S → ∃ x x' S1 S2, z = x ++ x' ∧ Reps w D o v x S1 ∧ Reps w D o v' x' S2 ∧ (∀ g, S1 g → ¬ S2 g) ∧ (∀ g, S1 g → S g) ∧ (∀ g, S2 g → S g)
 | o, [], v', z, S, h => ⟨[], z, Emp, S, rfl, .nil, h, fun _ h => h.elim, fun _ h => h.elim, fun _ h => h⟩
 | o, u :: v, v', _, S, .cons h1 h2 hd hs1 hs2 => by
  obtain ⟨x, x', T1, T2, rfl, r1, r2, d, t1, t2⟩ := Reps.split h2
  refine ⟨_ :: x, x', fun g => _ ∨ T1 g, T2, rfl, .cons h1 r1 (fun g hg hT => hd g hg (t1 g hT)) (fun g hg => Or.inl hg) (fun g hg => Or.inr hg), r2, ?_, ?_, fun g hg => hs2 g (t2 g hg)⟩
  ·rintro g (h | h) h'
   ·exact hd g h (t2 g h')
   ·exact d g h h'
  ·rintro g (h | h)
   ·exact hs1 g h
   ·exact hs2 g (t1 g h)
theorem Rep.oneCell {w : World} {D : BSet} {o : Bool} {v : V} {x : Value} {S : BSet} (h : Rep w D o v x S) (h1 : v.one = true) : x.oneCell' = true := by
 cases h <;> simp_all [V.one, Value.oneCell']
theorem V.cells_one {v : V} (h : v.one = true) : v.cells = [v] := by cases v <;> simp_all [V.one, V.cells]
theorem Rep.cells {w : World} {D : BSet} {o : Bool} {v : V} {x : Value} {S : BSet} (h : Rep w D o v x S) : Reps w D o v.cells x.cells.toList S ∧ ∀ c ∈ v.cells, V.one c = true := by
 by_cases h1 : v.one = true
 ·rw [V.cells_one h1]
  have hx : x.cells = #[x] := by
   have := h.oneCell h1
   cases x <;> simp_all [Value.oneCell', Value.cells]
  rw [hx]
  exact ⟨.cons h .nil (S2 := Emp) (fun _ _ h => h) (fun _ h => h) (fun _ h => h.elim), by simpa using h1⟩
 ·cases h with
  | agg k1 h => exact ⟨by simpa [V.cells, Value.cells] using h, by simpa [V.cells] using k1⟩
  | _ => simp [V.one] at h1
end Go.Ab
