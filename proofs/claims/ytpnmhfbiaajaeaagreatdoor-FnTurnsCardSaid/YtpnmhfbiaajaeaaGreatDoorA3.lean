/- Operations that leave memory alone: they do what 'ev' says (own framework). -/
import Derived.Test.YtpnmhfbiaajaeaaGreatDoorA2
import Derived.Laws.StructEq
set_option linter.unusedVariables false
set_option linter.unusedSimpArgs false
namespace Go.Ab
open Go.RowKit

def ofConst1 : Value → Option V
  | .int k n => some (.int k n)
  | .bool b => some (.bool b)
  | .string s => some (.str s.data.toList)
  | .slice none 0 0 => some (.sl 0 [])
  | _ => none
def ofConsts : List Value → Option (List V)
  | [] => some []
  | v :: vs => match ofConst1 v, ofConsts vs with
    | some x, some xs => some (x :: xs)
    | _, _ => none
def ofConst : Value → Option V
  | .agg cs => (ofConsts cs.toList).map V.agg
  | v => ofConst1 v
def compX : Operand → Option X
  | .tmp t => some (.t t)
  | .const v => (ofConst v).map X.c
  | .func f => some (.f f)
  | .global _ => none
def compXs : List Operand → Option (List X)
  | [] => some []
  | p :: ps => match compX p, compXs ps with
    | some x, some xs => some (x :: xs)
    | _, _ => none
def compXo : Option Operand → Option (Option X)
  | none => some none
  | some p => (compX p).map some

def sizeT (P : Program) (t : TypeId) : Option Nat := (P.info? t).map (·.size)
def aggT (P : Program) (t : TypeId) : Option Bool := match P.underlying t with
  | some (.struct _) => some true
  | some (.array _ _) => some true
  | some _ => some false
  | none => none

def compAsg : Operand → Option MO
  | .const v => match v with
    | .slice _ _ _ => none
    | v => (compX (.const v)).map MO.mv
  | x => (compX x).map MO.mv
def compPick (c a b : Operand) : Option MO := match compX c, compX a, compX b with
  | some c, some a, some b => some (.pick c a b)
  | _, _, _ => none
def flatF (P : Program) : Nat → List Field → Option (List Nat)
  | _, [] => some []
  | i, f :: fs => if (f.name == "_") = false ∧ f.offset = i then (match P.underlying f.type, flatF P (i + 1) fs with
    | some (.int _), some l => some (0 :: l)
    | some .bool, some l => some (1 :: l)
    | some .string, some l => some (2 :: l)
    | _, _ => none) else none
def flatT (P : Program) (t : TypeId) : Option (List Nat) := if P.stoodInHeld t = false ∧ P.eqGuardType P.depth t = false then (match P.underlying t with
  | some (.struct fs) => flatF P 0 fs.toList
  | _ => none) else none
def compBin (P : Program) (op : BinOp) (t : TypeId) (p q : Operand) : Option MO := match compX p, compX q with
  | some x, some y => match P.underlying t with
    | some .bool => match op with
      | .eql => some (.bnb false x y)
      | .neq => some (.bnb true x y)
      | _ => none
    | some (.int _) => some (.bin op x y)
    | some .string => some (.bin op x y)
    | some (.slice _) => match q with
      | .const (.slice none 0 0) => match op with
        | .eql => some (.isn false x)
        | .neq => some (.isn true x)
        | _ => none
      | _ => none
    | some (.struct _) => match flatT P t with
      | some ks => match op with
        | .eql => some (.eqs false ks x y)
        | .neq => some (.eqs true ks x y)
        | _ => none
      | none => none
    | _ => none
  | _, _ => none
def compUn (u : UnOp) (x : Operand) : Option MO := match u with
  | .not => (compX x).map MO.not
  | .neg => (compX x).map MO.neg
  | _ => none
def compConv (P : Program) (src dst : TypeId) (x : Operand) : Option MO := match compX x, P.underlying src, P.underlying dst with
  | some x, some (.int _), some (.int k) => some (.conv k x)
  | some x, some .string, some .string => some (.cvs x)
  | some x, some (.slice e), some .string => match P.underlying e with
    | some (.int .u8) => some (.bts x)
    | _ => none
  | _, _, _ => none
def compFad (P : Program) (s : TypeId) (x : Operand) (f : Nat) : Option MO := match compX x, P.underlying s with
  | some x, some (.struct fs) => match fs[f]? with
    | some fl => match sizeT P fl.type with
      | some (_ + 1) => some (.fad x fl.offset)
      | _ => none
    | none => none
  | _, _ => none
def compFld (P : Program) (s : TypeId) (x : Operand) (f : Nat) : Option MO := match compX x, P.underlying s with
  | some x, some (.struct fs) => match fs[f]? with
    | some fl => match sizeT P fl.type, aggT P fl.type with
      | some n, some ag => some (.fld x fl.offset n ag)
      | _, _ => none
    | none => none
  | _, _ => none
def compIad (P : Program) (t : TypeId) (x i : Operand) : Option MO := match compX x, compX i, P.underlying t with
  | some x, some i, some (.slice e) => match sizeT P e with
    | some sz => some (.iad x i sz)
    | none => none
  | _, _, _ => none
def compIdx (P : Program) (t : TypeId) (x i : Operand) : Option MO := match compX x, compX i, P.underlying t with
  | some x, some i, some .string => some (.ixs x i)
  | some x, some i, some (.array len e) => match sizeT P e, aggT P e with
    | some sz, some ag => some (.ixa x i len sz ag)
    | _, _ => none
  | _, _, _ => none
def compLd (P : Program) (t : TypeId) (x : Operand) : Option MO := match compX x, sizeT P t, aggT P t with
  | some x, some n, some ag => some (.ld x n ag)
  | _, _, _ => none
def compSlc (P : Program) (t : TypeId) (x : Operand) (lo hi mx : Option Operand) : Option MO := match mx with
  | some m => match compX x, compXo lo, compXo hi, compXo (some m) with
    | some x, some lo, some hi, some mx => match P.underlying t with
      | some (.slice e) => match sizeT P e with
        | some sz => some (.slc3 x lo hi mx sz)
        | none => none
      | _ => none
    | _, _, _, _ => none
  | none => match compX x, compXo lo, compXo hi, P.underlying t with
    | some x, some lo, some hi, some (.slice e) => match sizeT P e with
      | some sz => some (.slc x lo hi sz)
      | none => none
    | some x, some lo, some hi, some .string => some (.slcs x lo hi)
    | _, _, _, _ => none
def compMkf (fn : Fn) (first caps : List Operand) : Option MO := match fn, first with
  | .func f, [] => (compXs caps).map (MO.mkf f)
  | _, _ => none
def compBui (P : Program) (c : Call) : Option MO := match c.callee with
  | .builtin b => match b, c.args.toList, c.argTypes.toList with
    | .len, [x], [t] => match compX x, P.underlying t with
      | some x, some (.slice _) => some (.len x)
      | some x, some .string => some (.lens x)
      | _, _ => none
    | .max, [x, y], _ => match compX x, compX y with
      | some x, some y => some (.mnx true x y)
      | _, _ => none
    | .min, [x, y], _ => match compX x, compX y with
      | some x, some y => some (.mnx false x y)
      | _, _ => none
    | _, _, _ => none
  | _ => none

def kdOf : TypeDesc → Option Nat
  | .int _ => some 0
  | .bool => some 1
  | .string => some 2
  | _ => none
def ofSc : Value → Option Sc
  | .int k n => some (.int k n)
  | .bool b => some (.bool b)
  | .string s => some (.str s.data.toList)
  | _ => none
def zeroSc (P : Program) (e : TypeId) : Option Sc := match P.info? e with
  | some i => match i.zero with
    | some v => ofSc v
    | none => none
  | none => none
def mapT (P : Program) (t : TypeId) : Option (Nat × Sc) := match P.underlying t with
  | some (.map k e) => match P.underlying k with
    | some d => match kdOf d, zeroSc P e with
      | some kd, some z => some (kd, z)
      | _, _ => none
    | none => none
  | _ => none
def compLk (P : Program) (t : TypeId) (x i : Operand) (ok : Bool) : Option MO := match compX x, compX i, mapT P t with
  | some x, some i, some (kd, z) => some (.mlk kd x i z ok)
  | _, _, _ => none
def compP (P : Program) : Op → Option MO
  | .move x => (compX x).map MO.mv
  | .assign x => compAsg x
  | .pick c a b => compPick c a b
  | .nilCheck x => (compX x).map MO.nck
  | .binOp op t x y _ => compBin P op t x y
  | .unOp u _ x => compUn u x
  | .convert src dst x => compConv P src dst x
  | .fieldAddr s x f => compFad P s x f
  | .field s x f => compFld P s x f
  | .indexAddr t x i => compIad P t x i
  | .index t x i => compIdx P t x i
  | .load t x => compLd P t x
  | .slice t x lo hi mx => compSlc P t x lo hi mx
  | .extract x j => (compX x).map (MO.ext · j)
  | .lookup t x i ok => compLk P t x i ok
  | .makeFunc fn first caps => compMkf fn first.toList caps.toList
  | .call c => compBui P c
  | _ => none

def Dof (E : Env) : Option Nat → BSet
  | none => E.D
  | some r => fun g => E.D g ∨ E.S r g
def SrcOk (E : Env) : Option Nat → Prop
  | none => True
  | some r => live (E.objs r) = true

section
variable {P : Program} {N : Fr} {w0 : Base} {D0 : BSet} {E : Env} {st : St} {a : Act} {w : World}

theorem ofConst1_rep {D : BSet} {v : Value} {x : V} (h : ofConst1 v = some x) : Rep w D false x v Emp ∧ x.one = true := by
  unfold ofConst1 at h
  split at h
  all_goals first | (cases h; done) | (simp only [Option.some.injEq] at h; subst h)
  · exact ⟨.int _ _, rfl⟩
  · exact ⟨.bool _, rfl⟩
  · exact ⟨by simpa using Rep.str (w := w) (D := D) (o := false) (S := Emp) _, rfl⟩
  · exact ⟨.nil 0, rfl⟩
theorem ofConsts_rep {D : BSet} : ∀ {vs : List Value} {xs : List V}, ofConsts vs = some xs → Reps w D false xs vs Emp ∧ ∀ c ∈ xs, V.one c = true
  | [], xs, h => by
    simp only [ofConsts, Option.some.injEq] at h
    subst h
    exact ⟨.nil, by simp⟩
  | v :: vs, xs, h => by
    simp only [ofConsts] at h
    split at h
    · rename_i x ys hx hy
      simp only [Option.some.injEq] at h
      subst h
      obtain ⟨h1, o1⟩ := ofConst1_rep (w := w) (D := D) hx
      obtain ⟨h2, o2⟩ := ofConsts_rep hy
      refine ⟨.cons h1 h2 (fun _ h => h.elim) (fun _ h => h) (fun _ h => h), ?_⟩
      intro c hc
      rcases List.mem_cons.1 hc with rfl | hc
      · exact o1
      · exact o2 c hc
    · cases h
theorem ofConst_rep {D : BSet} {v : Value} {x : V} (h : ofConst v = some x) : Rep w D false x v Emp := by
  unfold ofConst at h
  split at h
  · rename_i cs
    obtain ⟨xs, hx, rfl⟩ := Option.map_eq_some_iff.1 h
    obtain ⟨h1, h2⟩ := ofConsts_rep (w := w) (D := D) hx
    exact by simpa using Rep.agg h2 h1
  · exact (ofConst1_rep h).1

theorem get_rep (hE : SimE N w0 D0 E st a w) {p : Operand} {x : X} (h : compX p = some x) : AvRep E (st.get x) (a.eval p) := by
  unfold compX at h
  split at h
  · simp only [Option.some.injEq] at h; subst h
    exact hE.tmps _
  · obtain ⟨v, hv, rfl⟩ := Option.map_eq_some_iff.1 h
    refine .val0 ?_
    rw [hE.ew]
    exact ofConst_rep hv
  · simp only [Option.some.injEq] at h; subst h
    exact .fn .nil
  · cases h

theorem gets_rep (hE : SimE N w0 D0 E st a w) : ∀ {ps : List Operand} {xs : List X}, compXs ps = some xs → AvReps E (xs.map st.get) (ps.map a.eval)
  | [], xs, h => by
    simp only [compXs, Option.some.injEq] at h
    subst h
    exact .nil
  | p :: ps, xs, h => by
    simp only [compXs] at h
    split at h
    · rename_i x ys hx hy
      simp only [Option.some.injEq] at h
      subst h
      exact .cons (get_rep hE hx) (gets_rep hE hy)
    · cases h

theorem view_rep (hE : SimE N w0 D0 E st a w) {c : AV} {v : Value} (h : AvRep E c v) {src : Option Nat} {u : V} (hv : st.view c = some (src, u)) : Rep w (Dof E src) false u v Emp ∧ SrcOk E src := by
  have ew := hE.ew
  unfold St.view at hv
  split at hv
  · simp only [Option.some.injEq, Prod.mk.injEq] at hv
    obtain ⟨rfl, rfl⟩ := hv
    cases h with
    | val0 h => exact ⟨by rw [← ew]; exact h, trivial⟩
  · split at hv
    · rename_i r v' hl
      simp only [Option.some.injEq, Prod.mk.injEq] at hv
      obtain ⟨rfl, rfl⟩ := hv
      have hl' : live (E.objs r) = true := by rw [hE.eo]; exact hl
      cases h with
      | val1 hr h => exact ⟨by rw [← ew]; exact h hl', hl'⟩
    · cases hv
  · cases hv

theorem scalar_any {D D' : BSet} {o o' : Bool} {S : BSet} {u : V} {v : Value} (h : Rep w D o u v S) (hp : u.scalar = true) : Rep w D' o' u v Emp := by
  cases h <;> first | exact .int _ _ | exact .bool _ | exact .str _ | (simp [V.scalar] at hp)
theorem scalars_any {D D' : BSet} : ∀ {o o' : Bool} {S : BSet} {u : List V} {v : List Value}, Reps w D o u v S → (∀ x ∈ u, V.scalar x = true) → Reps w D' o' u v Emp
  | _, _, _, _, _, .nil, _ => .nil
  | _, _, _, _, _, .cons h hs _ _ _, hp => .cons (scalar_any h (hp _ (by simp))) (scalars_any hs (fun x hx => hp x (by simp [hx]))) (fun _ h => h.elim) (fun _ h => h) (fun _ h => h)
theorem plain_any {D D' : BSet} {o o' : Bool} {S : BSet} {u : V} {v : Value} (h : Rep w D o u v S) (hp : u.plain = true) : Rep w D' o' u v Emp := by
  cases h with
  | int => exact .int _ _
  | bool => exact .bool _
  | str => exact .str _
  | agg h1 h => exact .agg h1 (scalars_any h (by simpa [V.plain, List.all_eq_true] using hp))
  | _ => simp [V.plain] at hp

theorem mk_rep (hE : SimE N w0 D0 E st a w) {src : Option Nat} {u : V} {v : Value} (h : Rep w (Dof E src) false u v Emp) (hs : SrcOk E src) : AvRep E (mk src u) v := by
  unfold mk
  split
  · rename_i hp
    exact .val0 (by rw [hE.ew]; exact plain_any h hp)
  · cases src with
    | none => exact .val0 (by rw [hE.ew]; exact h)
    | some r => exact .val1 (by intro e; simp [SrcOk, e, live] at hs) (fun _ => by rw [hE.ew]; exact h)

theorem binV_run {op : BinOp} {t : TypeId} {x y : Value} {u v r : V} {D D' : BSet} (hx : Rep w D false u x Emp) (hy : Rep w D' false v y Emp) (h : binV op u v = some r) (px py : Operand) :
    ∃ z, (do eqGuard op t px py x y; binOp op t x y).run P w = .ok z w ∧ ∀ D'', Rep w D'' false r z Emp := by
  unfold binV at h
  split at h
  · rename_i k a k' b
    cases hx
    cases hy
    have hg : (eqGuard op t px py (.int k a) (.int k' b)).run P w = .ok () w := by unfold eqGuard; split <;> simp
    simp only [Sem.run_bind, hg, Result.andThen_ok]
    split at h
    · split at h
      · cases h
      · rename_i hb
        simp only [Option.some.injEq] at h; subst h
        exact ⟨_, by simp [binOp, Op.shift, hb], fun _ => .int _ _⟩
    · split at h
      · cases h
      · rename_i hb
        simp only [Option.some.injEq] at h; subst h
        exact ⟨_, by simp [binOp, Op.shift, hb], fun _ => .int _ _⟩
    · split at h
      · rename_i h1 h2 hk
        subst hk
        unfold binI at h
        split at h
        all_goals first
          | (simp only [Option.some.injEq] at h; subst h; refine ⟨.int k _, ?_, fun _ => .int _ _⟩; simp [binOp, Op.intArith, Op.intCmp, Op.intBits]; done)
          | (simp only [Option.some.injEq] at h; subst h; refine ⟨.bool _, ?_, fun _ => .bool _⟩; (simp only [binOp, Op.intCmp, ne_eq, not_true_eq_false, if_false, Sem.run_pure]) <;> (first | rfl | (congr 2; rw [Bool.eq_iff_iff]; simp; done)); done)
          | (by_cases hb : b = 0
             · rw [if_pos hb] at h; cases h
             · rw [if_neg hb] at h
               simp only [Option.some.injEq] at h; subst h
               refine ⟨.int k _, ?_, fun _ => .int _ _⟩
               simp [binOp, Op.intDiv, hb])
          | cases h
      · cases h
  · rename_i a b
    cases hx
    cases hy
    have hg : (eqGuard op t px py (.string ⟨a.toArray⟩) (.string ⟨b.toArray⟩)).run P w = .ok () w := by unfold eqGuard; split <;> simp
    have ta : ByteArray.toList ⟨a.toArray⟩ = a := by simp
    have tb : ByteArray.toList ⟨b.toArray⟩ = b := by simp
    simp only [Sem.run_bind, hg, Result.andThen_ok]
    unfold binS at h
    split at h
    · split at h
      · rename_i hb
        simp only [Option.some.injEq] at h; subst h
        refine ⟨.string (⟨a.toArray⟩ ++ ⟨b.toArray⟩), ?_, fun _ => ?_⟩
        · have hs : ¬ (((ByteArray.size ⟨a.toArray⟩ + ByteArray.size ⟨b.toArray⟩ : Nat) : Int) > IntKind.i64.max) := by
            simp only [ByteArray.size, List.size_toArray]
            have : IntKind.i64.max = 9223372036854775807 := by decide
            omega
          simp only [binOp, Op.stringOp, if_neg hs, Sem.run_pure]
        · have e : (⟨a.toArray⟩ ++ ⟨b.toArray⟩ : ByteArray) = ⟨(a ++ b).toArray⟩ := by
            rw [ByteArray.ext_iff, ByteArray.data_append]
            simp
          rw [e]
          exact .str _
      · cases h
    all_goals first
      | (simp only [Option.some.injEq] at h; subst h; refine ⟨.bool _, ?_, fun _ => .bool _⟩; simp only [binOp, Op.stringOp, ta, tb, Sem.run_pure]; (try congr 2); (try (rw [Bool.eq_iff_iff]; simp)); done)
      | cases h
  · cases h
end
end Go.Ab
