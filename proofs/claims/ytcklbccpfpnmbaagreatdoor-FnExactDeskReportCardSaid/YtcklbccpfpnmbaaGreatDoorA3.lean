/- Operations that leave memory alone: they do what 'ev' says (own framework). -/
import Derived.Test.YtcklbccpfpnmbaaGreatDoorA2
import Derived.Laws.StructEq
set_option linter.unusedVariables false
set_option linter.unusedSimpArgs false
namespace Go.Ab
open Go.RowKit

def a1J : Value → Option V
  | .int k n => some (.int k n)
  | .bool b => some (.bool b)
  | .string s => some (.str s.data.toList)
  | .slice none 0 0 => some (.sl 0 [])
  | _ => none
def N0 : List Value → Option (List V)
  | [] => some []
  | v :: vs => match a1J v, N0 vs with
    | some x, some xs => some (x :: xs)
    | _, _ => none
def a3U : Value → Option V
  | .agg cs => (N0 cs.toList).map V.agg
  | v => a1J v
def C7 : Operand → Option X
  | .tmp t => some (.t t)
  | .const v => (a3U v).map X.c
  | .func f => some (.f f)
  | .global _ => none
def a4c : List Operand → Option (List X)
  | [] => some []
  | p :: ps => match C7 p, a4c ps with
    | some x, some xs => some (x :: xs)
    | _, _ => none
def a2c : Option Operand → Option (Option X)
  | none => some none
  | some p => (C7 p).map some

def a1q (P : Program) (t : TypeId) : Option Nat := (P.info? t).map (·.size)
def a5r (P : Program) (t : TypeId) : Option Bool := match P.underlying t with
  | some (.struct _) => some true
  | some (.array _ _) => some true
  | some _ => some false
  | none => none

def b2E : Operand → Option MO
  | .const v => match v with
    | .slice _ _ _ => none
    | v => (C7 (.const v)).map MO.mv
  | x => (C7 x).map MO.mv
def a8r (c a b : Operand) : Option MO := match C7 c, C7 a, C7 b with
  | some c, some a, some b => some (.pick c a b)
  | _, _, _ => none
def b5H (P : Program) : Nat → List Field → Option (List Nat)
  | _, [] => some []
  | i, f :: fs => if (f.name == "_") = false ∧ f.offset = i then (match P.underlying f.type, b5H P (i + 1) fs with
    | some (.int _), some l => some (0 :: l)
    | some .bool, some l => some (1 :: l)
    | some .string, some l => some (2 :: l)
    | _, _ => none) else none
def c2q (P : Program) (t : TypeId) : Option (List Nat) := if P.stoodInHeld t = false ∧ P.eqGuardType P.depth t = false then (match P.underlying t with
  | some (.struct fs) => b5H P 0 fs.toList
  | _ => none) else none
def b2F (P : Program) (op : BinOp) (t : TypeId) (p q : Operand) : Option MO := match C7 p, C7 q with
  | some x, some y => match P.underlying t with
    | some .bool => match op with
      | .eql => some (.bnb false x y)
      | .neq => some (.bnb true x y)
      | _ => none
    | some (.int _) => some (.bin op x y)
    | some .string => some (.bin op x y)
    | some (.slice _) => match q with
      | .const (.slice none 0 0) => match op with
        | .eql => some (.isn false x)
        | .neq => some (.isn true x)
        | _ => none
      | _ => none
    | some (.struct _) => match c2q P t with
      | some ks => match op with
        | .eql => some (.eqs false ks x y)
        | .neq => some (.eqs true ks x y)
        | _ => none
      | none => none
    | _ => none
  | _, _ => none
def b5S (u : UnOp) (x : Operand) : Option MO := match u with
  | .not => (C7 x).map MO.not
  | .neg => (C7 x).map MO.neg
  | _ => none
def a8S (P : Program) (src dst : TypeId) (x : Operand) : Option MO := match C7 x, P.underlying src, P.underlying dst with
  | some x, some (.int _), some (.int k) => some (.conv k x)
  | some x, some .string, some .string => some (.cvs x)
  | some x, some (.slice e), some .string => match P.underlying e with
    | some (.int .u8) => some (.bts x)
    | _ => none
  | _, _, _ => none
def b2B (P : Program) (s : TypeId) (x : Operand) (f : Nat) : Option MO := match C7 x, P.underlying s with
  | some x, some (.struct fs) => match fs[f]? with
    | some fl => match a1q P fl.type with
      | some (_ + 1) => some (.fad x fl.offset)
      | _ => none
    | none => none
  | _, _ => none
def b2H (P : Program) (s : TypeId) (x : Operand) (f : Nat) : Option MO := match C7 x, P.underlying s with
  | some x, some (.struct fs) => match fs[f]? with
    | some fl => match a1q P fl.type, a5r P fl.type with
      | some n, some ag => some (.fld x fl.offset n ag)
      | _, _ => none
    | none => none
  | _, _ => none
def b2G (P : Program) (t : TypeId) (x i : Operand) : Option MO := match C7 x, C7 i, P.underlying t with
  | some x, some i, some (.slice e) => match a1q P e with
    | some sz => some (.iad x i sz)
    | none => none
  | _, _, _ => none
def b2C (P : Program) (t : TypeId) (x i : Operand) : Option MO := match C7 x, C7 i, P.underlying t with
  | some x, some i, some .string => some (.ixs x i)
  | some x, some i, some (.array len e) => match a1q P e, a5r P e with
    | some sz, some ag => some (.ixa x i len sz ag)
    | _, _ => none
  | _, _, _ => none
def a9X (P : Program) (t : TypeId) (x : Operand) : Option MO := match C7 x, a1q P t, a5r P t with
  | some x, some n, some ag => some (.ld x n ag)
  | _, _, _ => none
def b2s (P : Program) (t : TypeId) (x : Operand) (lo hi mx : Option Operand) : Option MO := match mx with
  | some m => match C7 x, a2c lo, a2c hi, a2c (some m) with
    | some x, some lo, some hi, some mx => match P.underlying t with
      | some (.slice e) => match a1q P e with
        | some sz => some (.slc3 x lo hi mx sz)
        | none => none
      | _ => none
    | _, _, _, _ => none
  | none => match C7 x, a2c lo, a2c hi, P.underlying t with
    | some x, some lo, some hi, some (.slice e) => match a1q P e with
      | some sz => some (.slc x lo hi sz)
      | none => none
    | some x, some lo, some hi, some .string => some (.slcs x lo hi)
    | _, _, _, _ => none
def b6A (fn : Fn) (first caps : List Operand) : Option MO := match fn, first with
  | .func f, [] => (a4c caps).map (MO.mkf f)
  | _, _ => none
def b2t (P : Program) (c : Call) : Option MO := match c.callee with
  | .builtin b => match b, c.args.toList, c.argTypes.toList with
    | .len, [x], [t] => match C7 x, P.underlying t with
      | some x, some (.slice _) => some (.len x)
      | some x, some .string => some (.lens x)
      | _, _ => none
    | .max, [x, y], _ => match C7 x, C7 y with
      | some x, some y => some (.mnx true x y)
      | _, _ => none
    | .min, [x, y], _ => match C7 x, C7 y with
      | some x, some y => some (.mnx false x y)
      | _, _ => none
    | _, _, _ => none
  | _ => none

def b6W : TypeDesc → Option Nat
  | .int _ => some 0
  | .bool => some 1
  | .string => some 2
  | _ => none
def c6R : Value → Option Sc
  | .int k n => some (.int k n)
  | .bool b => some (.bool b)
  | .string s => some (.str s.data.toList)
  | _ => none
def b6l (P : Program) (e : TypeId) : Option Sc := match P.info? e with
  | some i => match i.zero with
    | some v => c6R v
    | none => none
  | none => none
def b6P (P : Program) (t : TypeId) : Option (Nat × Sc) := match P.underlying t with
  | some (.map k e) => match P.underlying k with
    | some d => match b6W d, b6l P e with
      | some kd, some z => some (kd, z)
      | _, _ => none
    | none => none
  | _ => none
def b5U (P : Program) (t : TypeId) (x i : Operand) (ok : Bool) : Option MO := match C7 x, C7 i, b6P P t with
  | some x, some i, some (kd, z) => some (.mlk kd x i z ok)
  | _, _, _ => none
def b7A (P : Program) : Op → Option MO
  | .move x => (C7 x).map MO.mv
  | .assign x => b2E x
  | .pick c a b => a8r c a b
  | .nilCheck x => (C7 x).map MO.nck
  | .binOp op t x y _ => b2F P op t x y
  | .unOp u _ x => b5S u x
  | .convert src dst x => a8S P src dst x
  | .fieldAddr s x f => b2B P s x f
  | .field s x f => b2H P s x f
  | .indexAddr t x i => b2G P t x i
  | .index t x i => b2C P t x i
  | .load t x => a9X P t x
  | .slice t x lo hi mx => b2s P t x lo hi mx
  | .extract x j => (C7 x).map (MO.ext · j)
  | .lookup t x i ok => b5U P t x i ok
  | .makeFunc fn first caps => b6A fn first.toList caps.toList
  | .call c => b2t P c
  | _ => none

def Dof (E : Env) : Option Nat → q9
  | none => E.D
  | some r => fun g => E.D g ∨ E.S r g
def b4z (E : Env) : Option Nat → Prop
  | none => True
  | some r => live (E.objs r) = true

section
variable {P : Program} {N : Fr} {w0 : Base} {D0 : q9} {E : Env} {st : St} {a : Act} {w : World}

theorem a1l {D : q9} {v : Value} {x : V} (h : a1J v = some x) : Rep w D false x v Emp ∧ x.one = true := by
  unfold a1J at h
  split at h
  all_goals first | (cases h; done) | (simp only [Option.some.injEq] at h; subst h)
  · exact ⟨.int _ _, rfl⟩
  · exact ⟨.bool _, rfl⟩
  · exact ⟨by simpa using Rep.str (w := w) (D := D) (o := false) (S := Emp) _, rfl⟩
  · exact ⟨.nil 0, rfl⟩
theorem a4L {D : q9} : ∀ {vs : List Value} {xs : List V}, N0 vs = some xs → Reps w D false xs vs Emp ∧ ∀ c ∈ xs, V.one c = true
  | [], xs, h => by
    simp only [N0, Option.some.injEq] at h
    subst h
    exact ⟨.nil, by simp⟩
  | v :: vs, xs, h => by
    simp only [N0] at h
    split at h
    · rename_i x ys hx hy
      simp only [Option.some.injEq] at h
      subst h
      obtain ⟨h1, o1⟩ := a1l (w := w) (D := D) hx
      obtain ⟨h2, o2⟩ := a4L hy
      refine ⟨.cons h1 h2 (fun _ h => h.elim) (fun _ h => h) (fun _ h => h), ?_⟩
      intro c hc
      rcases List.mem_cons.1 hc with rfl | hc
      · exact o1
      · exact o2 c hc
    · cases h
theorem b7t {D : q9} {v : Value} {x : V} (h : a3U v = some x) : Rep w D false x v Emp := by
  unfold a3U at h
  split at h
  · rename_i cs
    obtain ⟨xs, hx, rfl⟩ := Option.map_eq_some_iff.1 h
    obtain ⟨h1, h2⟩ := a4L (w := w) (D := D) hx
    exact by simpa using Rep.agg h2 h1
  · exact (a1l h).1

theorem z6 (hE : SimE N w0 D0 E st a w) {p : Operand} {x : X} (h : C7 p = some x) : AvRep E (st.get x) (a.eval p) := by
  unfold C7 at h
  split at h
  · simp only [Option.some.injEq] at h; subst h
    exact hE.tmps _
  · obtain ⟨v, hv, rfl⟩ := Option.map_eq_some_iff.1 h
    refine .val0 ?_
    rw [hE.ew]
    exact b7t hv
  · simp only [Option.some.injEq] at h; subst h
    exact .fn .nil
  · cases h

theorem a2U (hE : SimE N w0 D0 E st a w) : ∀ {ps : List Operand} {xs : List X}, a4c ps = some xs → AvReps E (xs.map st.get) (ps.map a.eval)
  | [], xs, h => by
    simp only [a4c, Option.some.injEq] at h
    subst h
    exact .nil
  | p :: ps, xs, h => by
    simp only [a4c] at h
    split at h
    · rename_i x ys hx hy
      simp only [Option.some.injEq] at h
      subst h
      exact .cons (z6 hE hx) (a2U hE hy)
    · cases h

theorem C4 (hE : SimE N w0 D0 E st a w) {c : AV} {v : Value} (h : AvRep E c v) {src : Option Nat} {u : V} (hv : st.view c = some (src, u)) : Rep w (Dof E src) false u v Emp ∧ b4z E src := by
  have ew := hE.ew
  unfold St.view at hv
  split at hv
  · simp only [Option.some.injEq, Prod.mk.injEq] at hv
    obtain ⟨rfl, rfl⟩ := hv
    cases h with
    | val0 h => exact ⟨by rw [← ew]; exact h, trivial⟩
  · split at hv
    · rename_i r v' hl
      simp only [Option.some.injEq, Prod.mk.injEq] at hv
      obtain ⟨rfl, rfl⟩ := hv
      have hl' : live (E.objs r) = true := by rw [hE.eo]; exact hl
      cases h with
      | val1 hr h => exact ⟨by rw [← ew]; exact h hl', hl'⟩
    · cases hv
  · cases hv

theorem b3A {D D' : q9} {o o' : Bool} {S : q9} {u : V} {v : Value} (h : Rep w D o u v S) (hp : u.scalar = true) : Rep w D' o' u v Emp := by
  cases h <;> first | exact .int _ _ | exact .bool _ | exact .str _ | (simp [V.scalar] at hp)
theorem a2S {D D' : q9} : ∀ {o o' : Bool} {S : q9} {u : List V} {v : List Value}, Reps w D o u v S → (∀ x ∈ u, V.scalar x = true) → Reps w D' o' u v Emp
  | _, _, _, _, _, .nil, _ => .nil
  | _, _, _, _, _, .cons h hs _ _ _, hp => .cons (b3A h (hp _ (by simp))) (a2S hs (fun x hx => hp x (by simp [hx]))) (fun _ h => h.elim) (fun _ h => h) (fun _ h => h)
theorem a6B {D D' : q9} {o o' : Bool} {S : q9} {u : V} {v : Value} (h : Rep w D o u v S) (hp : u.plain = true) : Rep w D' o' u v Emp := by
  cases h with
  | int => exact .int _ _
  | bool => exact .bool _
  | str => exact .str _
  | agg h1 h => exact .agg h1 (a2S h (by simpa [V.plain, List.all_eq_true] using hp))
  | _ => simp [V.plain] at hp

theorem a3E (hE : SimE N w0 D0 E st a w) {src : Option Nat} {u : V} {v : Value} (h : Rep w (Dof E src) false u v Emp) (hs : b4z E src) : AvRep E (mk src u) v := by
  unfold mk
  split
  · rename_i hp
    exact .val0 (by rw [hE.ew]; exact a6B h hp)
  · cases src with
    | none => exact .val0 (by rw [hE.ew]; exact h)
    | some r => exact .val1 (by intro e; simp [b4z, e, live] at hs) (fun _ => by rw [hE.ew]; exact h)

theorem c3h {op : BinOp} {t : TypeId} {x y : Value} {u v r : V} {D D' : q9} (hx : Rep w D false u x Emp) (hy : Rep w D' false v y Emp) (h : b8u op u v = some r) (px py : Operand) :
    ∃ z, (do eqGuard op t px py x y; binOp op t x y).run P w = .ok z w ∧ ∀ D'', Rep w D'' false r z Emp := by
  unfold b8u at h
  split at h
  · rename_i k a k' b
    cases hx
    cases hy
    have hg : (eqGuard op t px py (.int k a) (.int k' b)).run P w = .ok () w := by unfold eqGuard; split <;> simp
    simp only [Sem.run_bind, hg, Result.andThen_ok]
    split at h
    · split at h
      · cases h
      · rename_i hb
        simp only [Option.some.injEq] at h; subst h
        exact ⟨_, by simp [binOp, Op.shift, hb], fun _ => .int _ _⟩
    · split at h
      · cases h
      · rename_i hb
        simp only [Option.some.injEq] at h; subst h
        exact ⟨_, by simp [binOp, Op.shift, hb], fun _ => .int _ _⟩
    · split at h
      · rename_i h1 h2 hk
        subst hk
        unfold b4V at h
        split at h
        all_goals first
          | (simp only [Option.some.injEq] at h; subst h; refine ⟨.int k _, ?_, fun _ => .int _ _⟩; simp [binOp, Op.intArith, Op.intCmp, Op.intBits]; done)
          | (simp only [Option.some.injEq] at h; subst h; refine ⟨.bool _, ?_, fun _ => .bool _⟩; (simp only [binOp, Op.intCmp, ne_eq, not_true_eq_false, if_false, Sem.run_pure]) <;> (first | rfl | (congr 2; rw [Bool.eq_iff_iff]; simp; done)); done)
          | (by_cases hb : b = 0
             · rw [if_pos hb] at h; cases h
             · rw [if_neg hb] at h
               simp only [Option.some.injEq] at h; subst h
               refine ⟨.int k _, ?_, fun _ => .int _ _⟩
               simp [binOp, Op.intDiv, hb])
          | cases h
      · cases h
  · rename_i a b
    cases hx
    cases hy
    have hg : (eqGuard op t px py (.string ⟨a.toArray⟩) (.string ⟨b.toArray⟩)).run P w = .ok () w := by unfold eqGuard; split <;> simp
    have ta : ByteArray.toList ⟨a.toArray⟩ = a := by simp
    have tb : ByteArray.toList ⟨b.toArray⟩ = b := by simp
    simp only [Sem.run_bind, hg, Result.andThen_ok]
    unfold b9c at h
    split at h
    · split at h
      · rename_i hb
        simp only [Option.some.injEq] at h; subst h
        refine ⟨.string (⟨a.toArray⟩ ++ ⟨b.toArray⟩), ?_, fun _ => ?_⟩
        · have hs : ¬ (((ByteArray.size ⟨a.toArray⟩ + ByteArray.size ⟨b.toArray⟩ : Nat) : Int) > IntKind.i64.max) := by
            simp only [ByteArray.size, List.size_toArray]
            have : IntKind.i64.max = 9223372036854775807 := by decide
            omega
          simp only [binOp, Op.stringOp, if_neg hs, Sem.run_pure]
        · have e : (⟨a.toArray⟩ ++ ⟨b.toArray⟩ : ByteArray) = ⟨(a ++ b).toArray⟩ := by
            rw [ByteArray.ext_iff, ByteArray.data_append]
            simp
          rw [e]
          exact .str _
      · cases h
    all_goals first
      | (simp only [Option.some.injEq] at h; subst h; refine ⟨.bool _, ?_, fun _ => .bool _⟩; simp only [binOp, Op.stringOp, ta, tb, Sem.run_pure]; (try congr 2); (try (rw [Bool.eq_iff_iff]; simp)); done)
      | cases h
  · cases h
end
end Go.Ab
