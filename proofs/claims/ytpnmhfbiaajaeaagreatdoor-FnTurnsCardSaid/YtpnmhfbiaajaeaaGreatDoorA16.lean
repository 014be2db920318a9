/- One operation, a region, code: what the abstract frame says of the machine's (own framework). -/
import Derived.Test.YtpnmhfbiaajaeaaGreatDoorB6
set_option linter.unusedVariables false
set_option linter.unusedSimpArgs false
namespace Go.Ab
open Go.RowKit

/-- An operation, read. -/
inductive AO where
  | p (k : Bool) (m : MO)
  | f (m : FO)
  | call (k : Bool) (f : Nat) (args : List X)
  | callv (g : X) (args : List X)
  deriving Inhabited
structure MI where
  dst : Option Nat
  gd : Option (Nat × Bool)
  op : AO
  deriving Inhabited

def compCall (md : Bool) (c : Call) : Option AO := match c.callee with
  | .value (.func f) => (compXs c.args.toList).map (AO.call md f)
  | .value p => match compX p, compXs c.args.toList with
    | some g, some xs => some (.callv g xs)
    | _, _ => none
  | _ => none
/-- ns: the order is not drawn (for this operation); sf: literals are taken for such as use up nothing. -/
structure Md where
  ns : Bool
  sf : Bool
  em : Bool
  al : Bool := false
/-- A pointer to a source of draws: three fields, one of 64 bits without a sign. -/
def isSrcT (P : Program) (t : Nat) : Bool := match (P.types[t]?).map TypeInfo.desc with
  | some (.pointer e) => match (P.types[e]?).map TypeInfo.desc with
    | some (.named _ u) => match (P.types[u]?).map TypeInfo.desc with
      | some (.struct fs) => fs.size == 3 && fs.toList.any fun f => match (P.types[f.type]?).map TypeInfo.desc with
        | some (.int .u64) => true
        | _ => false
      | _ => false
    | _ => false
  | _ => false
/-- A call that changes what its first argument points to. -/
def hardC (P : Program) (c : Call) : Bool := match c.callee with
  | .value (.func f) => match P.funcs[f]? with
    | some fn => match fn.params[0]? with
      | some t => isSrcT P t
      | none => false
    | none => false
  | _ => false
/-- mv: what is appended is not used again. -/
def compO (P : Program) (md : Md) (mv : Bool) (o : Oper) : Option AO :=
  match compF P o.type mv o.op with
  | some m => some (.f (if md.em = true then softenE m else if md.sf = true then softenF m else m))
  | none => match compP P o.op with
    | some m => some (.p md.ns m)
    | none => match o.op with
      | .call c => if md.ns = false ∧ hardC P c = true then (if md.al = true then compCall true c else none) else compCall md.ns c
      | _ => none
theorem compO_call {P : Program} {md : Md} {c : Call} {m : AO} (h : (if md.ns = false ∧ hardC P c = true then (if md.al = true then compCall true c else none) else compCall md.ns c) = some m) : ∃ k, compCall k c = some m := by
  split at h
  · split at h
    · exact ⟨_, h⟩
    · cases h
  · exact ⟨_, h⟩

/-- The function behind a value, with what it holds. -/
def fnOf (s : St) : AV → Option (Nat × List AV)
  | .fn f cs => some (f, cs)
  | c => match s.view c with
    | some (src, .fn f caps) => some (f, caps.map (AV.val src))
    | _ => none

def put (s : St) (d : Option Nat) (av : AV) (ob : Objs) : St := match d with
  | some d => { s with tmps := upd s.tmps d av, objs := ob, lk := none }
  | none => { s with objs := ob, lk := none }

/-- A function that the model stands in for: it answers at once. -/
def ExtC (P : Program) (f : FuncId) (Vs : List V) (res : RV) : Prop :=
  ∃ k n, res = .one (.one (.val (.int k n))) ∧ ∀ (w : World) (D : BSet) (vs : List Value), Reps w D false Vs vs Emp → (callFunc f vs.toArray).run P w = .ok (.value (.int k n)) w
def CanS (P : Program) (f : FuncId) (Vs : List V) (res : RV) : Prop := (okFn P f = true ∧ Con P f Vs res) ∨ ExtC P f Vs res
/-- A call: by its contract, the arguments lent (ln) or not. -/
def CallS (P : Program) (s : St) (id f : Nat) (cs : List AV) (av : AV) (ob : Objs) : Prop :=
  ∃ ln Vs res, CanS P f Vs res ∧ trav (snap ln s 8) cs = some Vs ∧ True ∧ res.fits = true ∧ (ln = true → res.clean = true) ∧ av = (plV id s.objs res).1 ∧ ob = (plV id s.objs res).2

/-- What an operation makes of the frame. -/
def StepO (P : Program) (s : St) (id : Nat) : AO → AV → Objs → Prop
  | .p _ m, av, ob => ev s m = some av ∧ ob = s.objs
  | .f m, av, ob => eff s id m = some (av, ob)
  | .call _ f xs, av, ob => CallS P s id f (xs.map s.get) av ob
  | .callv g xs, av, ob => ∃ f caps, fnOf s (s.get g) = some (f, caps) ∧ CallS P s id f (xs.map s.get ++ caps) av ob

def wants (s : St) : Option (Nat × Bool) → Option Bool
  | none => some true
  | some (d, b) => match s.tmps d with
    | .val none (.bool c) => some (c == b)
    | .tup [] => some false
    | _ => none

/-- A temporary is written, memory stays: a link that stands goes on. -/
def putk (s : St) (d : Nat) (av : AV) : St := { s with tmps := upd s.tmps d av, lk := match s.lk with
  | some (t, x) => if t = d then none else some (t, x)
  | none => none }
def scrS (l : List Nat) (s : St) : St := { s with tmps := fun t => scrA l (s.tmps t) }
/-- Where the order is not drawn: links into rows, and calls that change what they are handed. -/
def StepX (P : Program) (s : St) (id : Nat) (m : MI) (s' : St) : Prop := wants s m.gd = some true ∧ match m.op with
  | .p true mo => ∃ d, m.dst = some d ∧ ((∃ av, ev s mo = some av ∧ s' = putk s d av) ∨
      (∃ x n r i f sz L e z T, mo = .ld x n false ∧ s.get x = .ptr r i f ∧ s.objs r = some (.row true sz L) ∧ L[i]? = some e ∧ e.cells[f]? = some (.sl z T) ∧ s' = { put s (some d) .bad s.objs with lk := some (d, r, i, f) }))
  | .call true f (x :: xs) => okFn P f = true ∧
      ((∃ ro rv, trav (snap false s 8) (xs.map s.get) = some ro ∧ rv.plain = true ∧
        ((∃ r l r', takeM s (s.get x) = some (r, l) ∧ l.Nodup ∧ like2 r r' ∧ ConM P f r r' ro rv ∧ s' = put (scrS l s) m.dst (yav rv) (newO2 (scrO l s.objs) (s.get x) r')) ∨
         (∃ t r i f0 sz L e z T T', x = .t t ∧ s.lk = some (t, r, i, f0) ∧ s.objs r = some (.row true sz L) ∧ L[i]? = some e ∧ e.cells[f0]? = some (.sl z T) ∧ ConM P f (.one (.row true z T)) (.one (.row true z T')) ro rv ∧ T'.length = T.length ∧
          s' = put (scrS [r] s) m.dst (yav rv) (upd (scrO [r] s.objs) r (some (.row true sz (L.set i (patch e f0 [.sl z T'])))))))) ∨
       (∃ r off len own sz L ro res ln, s.get x = .sl r off len ∧ s.objs r = some (.row own sz L) ∧ trav (snap ln (deadS s r) 8) (xs.map s.get) = some ro ∧ ConX P f own sz ((L.drop off).take len) ro res ∧ res.fits = true ∧ (ln = true → res.clean = true) ∧
          s' = put s m.dst (plV id (upd s.objs r (some .dead)) res).1 (plV id (upd s.objs r (some .dead)) res).2) ∨
       (∃ r ks cs cs' ro res, s.get x = .ptr r 0 0 ∧ s.objs r = some (.box (cs.map (AV.val none))) ∧ ks.contains r = false ∧ trav (snap true (onlyS s ks) 8) (xs.map s.get) = some ro ∧ ConP P f cs cs' ro res ∧ res.fits = true ∧
          s' = put s m.dst (plV id (upd (killO ks s.objs) r (some (.box (cs'.map (AV.val none))))) res).1 (plV id (upd (killO ks s.objs) r (some (.box (cs'.map (AV.val none))))) res).2) ∨
       (∃ cs ro, trav (snap false s 8) ((x :: xs).map s.get) = some ro ∧ ConN P f ro cs ∧ s' = put s m.dst (.ptr id 0 0) (upd s.objs id (some (.box (cs.map (AV.val none)))))))
  | _ => False
def Step (P : Program) (s : St) (id : Nat) (m : MI) (s' : St) : Prop :=
  (wants s m.gd = some false ∧ s' = put s m.dst .undef s.objs) ∨ (wants s m.gd = some true ∧ ∃ av ob, StepO P s id m.op av ob ∧ s' = put s m.dst av ob) ∨ StepX P s id m s'
def dstOk (N : Fr) : Option Nat → Bool
  | some d => decide (d < N.n) && (!N.pin || !(d == 0))
  | none => true
theorem dstOk_lt {N : Fr} {d : Nat} (h : dstOk N (some d) = true) : d < N.n ∧ (N.pin = true → d ≠ 0) := by
  simp only [dstOk, Bool.and_eq_true, decide_eq_true_eq, Bool.or_eq_true, Bool.not_eq_true', beq_eq_false_iff_ne, ne_eq] at h
  refine ⟨h.1, fun hp => ?_⟩
  rcases h.2 with h | h
  · rw [hp] at h; cases h
  · exact h

section
variable {P : Program} {N : Fr} {w0 : Base} {D0 : BSet} {E : Env} {st : St} {a : Act} {w : World}

theorem trav_snap (hE : SimE N w0 D0 E st a w) {ln : Bool} {cs : List AV} {xs : List Value} {Vs : List V} (h : AvReps E cs xs) (ht : trav (snap ln st 8) cs = some Vs) : Reps w (Lent E ln) false Vs xs Emp :=
  trav_rep (fun c v x hx hs => snap_rep hE 8 c v x hx hs) h ht

theorem does_f (hE : SimE N w0 D0 E st a w) {id : Nat} (hf : ∀ k, k < 64 → st.objs (id + k) = none) {o : Oper} {mv : Bool} {m : FO} (hc : compF P o.type mv o.op = some m) {av : AV} {ob : Objs} (he : eff st id m = some (av, ob)) : Does P w0 D0 E a o av ob := by
  have ew := hE.ew
  have hf0 : st.objs id = none := by simpa using hf 0 (by omega)
  obtain ⟨dst, op, ty, pos, after, guard⟩ := o
  refine does_of_out ?_
  rw [ew]
  cases op <;> simp only [compF] at hc <;> try (cases hc; done)
  case box t x =>
    obtain ⟨y, hx, rfl⟩ := Option.map_eq_some_iff.1 hc
    simp only [eff] at he
    split at he
    · rename_i cs hcs
      simp only [Option.some.injEq, Prod.mk.injEq] at he
      obtain ⟨rfl, rfl⟩ := he
      obtain ⟨E', le, g, ho, hr, hv⟩ := eff_box (P := P) hE hf0 hx hcs t
      exact ⟨_, E', le, g, rfl, ho, .inl ⟨_, by simp only [execOp, Sem.run_bind, hr, Result.andThen_ok, Sem.run_pure], hv⟩⟩
    · cases he
  case alloc t =>
    obtain ⟨E', v, le, g, ho, hr, hv⟩ := eff_alloc (P := P) hE hf hc he
    exact ⟨_, E', le, g, rfl, ho, .inl ⟨_, by simp only [execOp, Sem.run_bind, hr, Result.andThen_ok, Sem.run_pure], hv⟩⟩
  case build t ps =>
    obtain ⟨E', v, le, g, ho, hw, hr, hv⟩ := eff_bld (P := P) hE hf hc he
    exact ⟨w, E', le, g, hw, ho, .inl ⟨_, by simp only [execOp, Sem.run_bind, hr, Result.andThen_ok, Sem.run_pure], hv⟩⟩
  case assign x =>
    obtain ⟨E', le, g, ho, hw, hv⟩ := eff_asg (P := P) hE hf0 hc he
    exact ⟨w, E', le, g, hw, ho, .inl ⟨_, by simp [execOp], hv⟩⟩
  case slice t x lo hi mx =>
    obtain ⟨E', v, le, g, ho, hw, hr, hv⟩ := eff_slc3 (P := P) hE hf0 hc he
    exact ⟨w, E', le, g, hw, ho, .inl ⟨_, by simp only [execOp, Sem.run_bind, hr, Result.andThen_ok, Sem.run_pure], hv⟩⟩
  case buildSlice t n ps =>
    obtain ⟨E', v, le, g, ho, hr, hv⟩ := eff_bsl (P := P) hE hf0 hc he
    exact ⟨_, E', le, g, rfl, ho, .inl ⟨_, by simp only [execOp, Sem.run_bind, hr, Result.andThen_ok, Sem.run_pure], hv⟩⟩
  case makeSlice t l c =>
    obtain ⟨E', v, le, g, ho, hr, hv⟩ := eff_mks (P := P) hE hf0 hc he
    exact ⟨_, E', le, g, rfl, ho, .inl ⟨_, by simp only [execOp, Sem.run_bind, hr, Result.andThen_ok, Sem.run_pure], hv⟩⟩
  case store t x v =>
    obtain ⟨E', le, g, ho, hr, rfl⟩ := eff_st (P := P) (id := id) hE hc he
    exact ⟨_, E', le, g, rfl, ho, .inr ⟨by simp only [execOp, Sem.run_bind, hr, Result.andThen_ok, Sem.run_pure], rfl⟩⟩
  case makeMap t r =>
    obtain ⟨E', v, le, g, ho, hr, hv⟩ := eff_mkm (P := P) hE hf0 hc he
    exact ⟨_, E', le, g, rfl, ho, .inl ⟨_, by simp only [execOp, Sem.run_bind, hr, Result.andThen_ok, Sem.run_pure], hv⟩⟩
  case mapUpdate t m k v =>
    obtain ⟨E', le, g, ho, hr, rfl⟩ := eff_mpu (P := P) (id := id) hE hc he
    exact ⟨_, E', le, g, rfl, ho, .inr ⟨by simp only [execOp, Sem.run_bind, hr, Result.andThen_ok, Sem.run_pure], rfl⟩⟩
  case insert t m k v =>
    obtain ⟨E', le, g, ho, hr, rfl⟩ := eff_mpu (P := P) (id := id) hE hc he
    exact ⟨_, E', le, g, rfl, ho, .inr ⟨by simp only [execOp, Sem.run_bind, hr, Result.andThen_ok, Sem.run_pure], rfl⟩⟩
  case mapEntry t m k =>
    obtain ⟨E', v, le, g, ho, hr, hv⟩ := eff_men (P := P) (id := id) hE hc he
    exact ⟨_, E', le, g, rfl, ho, .inl ⟨_, by simp only [execOp, Sem.run_bind, hr, Result.andThen_ok, Sem.run_pure], hv⟩⟩
  case entryStore t m s v =>
    obtain ⟨E', le, g, ho, hr, rfl⟩ := eff_mes (P := P) (id := id) (t := t) hE hc he
    exact ⟨_, E', le, g, rfl, ho, .inr ⟨by simp only [execOp, Sem.run_bind, hr, Result.andThen_ok, Sem.run_pure], rfl⟩⟩
  case call c =>
    split at hc
    · rename_i m' hm
      simp only [Option.some.injEq] at hc; subst hc
      obtain ⟨E', v, le, g, ho, hr, hv⟩ := eff_app (P := P) (ty := ty) hE hf hm he
      exact ⟨_, E', le, g, rfl, ho, .inl ⟨_, by simp only [execOp]; exact hr, hv⟩⟩
    · obtain ⟨E', v, le, g, ho, hr, hv⟩ := eff_clr (P := P) (ty := ty) hE hc he
      exact ⟨_, E', le, g, rfl, ho, .inl ⟨_, by simp only [execOp]; exact hr, hv⟩⟩

/-- Empty literals, and appends to them. -/
theorem does_em (hE : SimE N w0 D0 E st a w) {id : Nat} (hf : ∀ k, k < 64 → st.objs (id + k) = none) {o : Oper} {mv : Bool} {m : FO} (hc : compF P o.type mv o.op = some m) {av : AV} {ob : Objs} (he : eff st id (softenE m) = some (av, ob)) : Does P w0 D0 E a o av ob := by
  have key : softenE m = m ∨ (∃ sz, m = .bsl sz []) ∨ ∃ n y sz by_, m = .app (.t n) y sz by_ false := by
    unfold softenE
    split
    · exact .inr (.inl ⟨_, rfl⟩)
    · exact .inr (.inr ⟨_, _, _, _, rfl⟩)
    · exact .inl rfl
  rcases key with k | ⟨sz, rfl⟩ | ⟨n, y, sz, by_, rfl⟩
  · rw [k] at he; exact does_f hE hf hc he
  · have ew := hE.ew
    simp only [softenE, eff, Option.some.injEq, Prod.mk.injEq] at he
    obtain ⟨rfl, rfl⟩ := he
    obtain ⟨dst, op, ty, pos, after, guard⟩ := o
    refine does_of_out ?_
    rw [ew]
    cases op <;> simp only [compF] at hc <;> try (cases hc; done)
    case buildSlice t n ps =>
      obtain ⟨E', v, le, g, ho, hr, hv⟩ := eff_bsl0 (P := P) hE hc
      exact ⟨_, E', le, g, rfl, ho, .inl ⟨_, by simp only [execOp, Sem.run_bind, hr, Result.andThen_ok, Sem.run_pure], hv⟩⟩
    all_goals (exfalso; revert hc; (try simp only [compAlloc, compBld, compAsgN, compSlc3, compMks, compSt, compMkm, compMpu, compMen, compMes, compClr]); (repeat' split) <;> first | (simp; done) | (rename_i hm; simp only [Option.some.injEq]; rintro rfl; revert hm; simp only [compApp]; (repeat' split) <;> simp))
  · have ew := hE.ew
    simp only [softenE] at he
    obtain ⟨dst, op, ty, pos, after, guard⟩ := o
    refine does_of_out ?_
    rw [ew]
    cases op <;> simp only [compF] at hc <;> try (cases hc; done)
    case call c =>
      split at hc
      · rename_i m' hm
        simp only [Option.some.injEq] at hc; subst hc
        obtain ⟨E', v, le, g, ho, hr, hv⟩ := eff_app0 (P := P) (ty := ty) hE hf hm he
        exact ⟨_, E', le, g, rfl, ho, .inl ⟨_, by simp only [execOp]; exact hr, hv⟩⟩
      · exfalso; revert hc; unfold compClr; repeat' split
        all_goals simp
    all_goals (exfalso; revert hc; (try simp only [compAlloc, compBld, compAsgN, compSlc3, compMks, compSt, compMkm, compMpu, compMen, compMes, compBsl]); (repeat' split) <;> simp)

theorem vals_rep (hE : SimE N w0 D0 E st a w) {src : Option Nat} (hs : SrcOk E src) : ∀ {cs : List V} {vs : List Value}, Reps w (Dof E src) false cs vs Emp → AvReps E (cs.map (AV.val src)) vs
  | [], vs, h => by cases h; exact .nil
  | c :: cs, _, .cons h1 h2 _ s1 s2 => by
    refine .cons ?_ (vals_rep hE hs (h2.wide s2))
    cases src with
    | none => exact .val0 (by rw [hE.ew]; exact h1.wide s1)
    | some r => exact .val1 (by intro e; simp [SrcOk, e, live] at hs) (fun _ => by rw [hE.ew]; exact h1.wide s1)

theorem fnOf_rep (hE : SimE N w0 D0 E st a w) {c : AV} {x : Value} (h : AvRep E c x) {f : Nat} {caps : List AV} (hf : fnOf st c = some (f, caps)) : ∃ cs, x = .func (.func f) #[] cs.toArray ∧ AvReps E caps cs := by
  unfold fnOf at hf
  split at hf
  · simp only [Option.some.injEq, Prod.mk.injEq] at hf
    obtain ⟨rfl, rfl⟩ := hf
    cases h with
    | fn h => exact ⟨_, rfl, h⟩
  · split at hf
    · rename_i src f' cps hv
      simp only [Option.some.injEq, Prod.mk.injEq] at hf
      obtain ⟨rfl, rfl⟩ := hf
      obtain ⟨hr, hs⟩ := view_rep hE h hv
      cases hr with
      | fn hr => exact ⟨_, rfl, vals_rep hE hs hr⟩
    · cases hf

theorem does_ext (hE : SimE N w0 D0 E st a w) {o : Oper} {k : IntKind} {n : Int} (h : (execOp a.eval o).run P w = .ok (.value (.int k n)) w) : Does P w0 D0 E a o (.val none (.int k n)) st.objs := by
  have ew := hE.ew
  have := does_of_yld (P := P) (a := a) (o := o) (av := .val none (.int k n)) hE.good ⟨.int k n, by rw [ew]; exact h, .val0 (.int k n)⟩
  rw [hE.eo] at this
  exact this

theorem does_o (hE : SimE N w0 D0 E st a w) {id : Nat} (hf : ∀ k, k < 64 → st.objs (id + k) = none) {o : Oper} {md : Md} {mv : Bool} {m : AO} (hc : compO P md mv o = some m) {av : AV} {ob : Objs} (hs : StepO P st id m av ob) : Does P w0 D0 E a o av ob := by
  have ew := hE.ew
  have eo := hE.eo
  unfold compO at hc
  split at hc
  · rename_i fo hfo
    simp only [Option.some.injEq] at hc; subst hc
    have hs : eff st id (if md.em = true then softenE fo else if md.sf = true then softenF fo else fo) = some (av, ob) := hs
    split at hs
    · exact does_em hE hf hfo hs
    · refine does_f hE hf hfo ?_
      split at hs
      · exact eff_soften hs
      · exact hs
  · split at hc
    · rename_i mo hmo
      simp only [Option.some.injEq] at hc; subst hc
      obtain ⟨h1, rfl⟩ := hs
      have := does_of_yld (P := P) hE.good (by rw [ew]; exact ev_sound (P := P) hE hmo h1)
      rw [eo] at this
      exact this
    · split at hc
      · rename_i c hop
        obtain ⟨kk, hc⟩ := compO_call hc
        unfold compCall at hc
        split at hc
        · rename_i f hcal
          obtain ⟨xs, hxs, rfl⟩ := Option.map_eq_some_iff.1 hc
          obtain ⟨ln, Vs, res, hok, hsn, hcon, hfit, hcl, rfl, rfl⟩ := hs
          have hargs := trav_snap hE (gets_rep hE hxs) hsn
          rcases hok with ⟨hok, hcon⟩ | ⟨k, n, rfl, hrun⟩
          · refine does_call hE hcon hargs hfit hcl hf ?_
            simp only [execOp, hop, resolve, hcal, Act.eval, Deferred.ofValue, Sem.run_bind, Sem.run_pure, Result.andThen_ok, invoke]
            rw [callFunc_run hok]
            congr 2
            apply Array.ext'
            simp
          · refine does_ext hE ?_
            have hr := hrun w _ _ hargs
            simp only [execOp, hop, resolve, hcal, Act.eval, Deferred.ofValue, Sem.run_bind, Sem.run_pure, Result.andThen_ok, invoke]
            rw [← hr]
            congr 2
            apply Array.ext'
            simp
        · rename_i p _ hcal
          split at hc
          · rename_i g xs hg hxs
            simp only [Option.some.injEq] at hc; subst hc
            obtain ⟨f, caps, hfn, ln, Vs, res, hok, hsn, hcon, hfit, hcl, rfl, rfl⟩ := hs
            obtain ⟨cs, hx, hcaps⟩ := fnOf_rep hE (get_rep hE hg) hfn
            have hargs := trav_snap hE ((gets_rep hE hxs).append hcaps) hsn
            rcases hok with ⟨hok, hcon⟩ | ⟨k, n, rfl, hrun⟩
            · refine does_call hE hcon hargs hfit hcl hf ?_
              simp only [execOp, hop, resolve, hcal, hx, Deferred.ofValue, Sem.run_bind, Sem.run_pure, Result.andThen_ok, invoke]
              rw [callFunc_run hok]
              congr 2
              apply Array.ext'
              simp
            · refine does_ext hE ?_
              have hr := hrun w _ _ hargs
              simp only [execOp, hop, resolve, hcal, hx, Deferred.ofValue, Sem.run_bind, Sem.run_pure, Result.andThen_ok, invoke]
              rw [← hr]
              congr 2
              apply Array.ext'
              simp
          · cases hc
        · cases hc
      · cases hc

theorem getD_put {a : Act} {d t : Nat} {v : Value} (h : t ≠ d) : (a.put (some d) v).tmps.getD t undef = a.tmps.getD t undef := by
  simp only [Act.put, Array.getD_eq_getD_getElem?]
  rw [Array.getElem?_setIfInBounds_ne (fun e => h e.symm)]
theorem getD_put_same {a : Act} {d : Nat} {v : Value} (h : d < a.tmps.size) : (a.put (some d) v).tmps.getD d undef = v := by
  simp [Act.put, Array.getD, h]

/-- The new frame, whatever becomes of the old temporaries. -/
theorem sim_upd (hE : SimE N w0 D0 E st a w) {E' : Env} (g : Good w0 D0 E') {T : Nat → AV} (hT : ∀ t, AvRep E' (T t) (a.tmps.getD t undef)) {av : AV} {v : Value} {ob : Objs} (ho : E'.objs = ob) (hr : AvRep E' av v) {d : Option Nat} (hd : dstOk N d = true) {lk : Option (Nat × Nat × Nat × Nat)}
    (hlk : ∀ t r i f, lk = some (t, r, i, f) → Link E' r i f ((a.put d v).tmps.getD t undef)) : SimE N w0 D0 E' ⟨(match d with
      | some d => upd T d av
      | none => T), ob, st.next, lk⟩ (a.put d v) E'.w := by
  cases d with
  | none => exact ⟨g, rfl, ho, hE.size, hE.defers, hT, hE.fix, hlk⟩
  | some d =>
    obtain ⟨hlt, hpin⟩ := dstOk_lt hd
    have hlt' : d < a.tmps.size := Nat.lt_of_lt_of_le hlt hE.size
    refine ⟨g, rfl, ho, by simpa [Act.put] using hE.size, hE.defers, fun t => ?_, fun hp => ?_, hlk⟩
    · by_cases e : t = d
      · subst e
        simp only [upd_same]
        rw [getD_put_same hlt']
        exact hr
      · simp only [upd_ne e]
        rw [getD_put e]
        exact hT t
    · rw [getD_put (fun e => hpin hp e.symm)]
      exact hE.fix hp
theorem sim_put (hE : SimE N w0 D0 E st a w) {E' : Env} (le : E.Le E') (g : Good w0 D0 E') {av : AV} {v : Value} {ob : Objs} (ho : E'.objs = ob) (hr : AvRep E' av v) {d : Option Nat} (hd : dstOk N d = true) : SimE N w0 D0 E' (put st d av ob) (a.put d v) E'.w := by
  have := sim_upd hE g (fun t => (hE.tmps t).le le) ho hr hd (lk := none) (fun _ _ _ _ h => by cases h)
  cases d <;> exact this
theorem sim_putM (hE : SimE N w0 D0 E st a w) {l : List Nat} {E' : Env} (le : E.LeX l E') (g : Good w0 D0 E') {av : AV} {v : Value} {ob : Objs} (ho : E'.objs = ob) (hr : AvRep E' av v) {d : Option Nat} (hd : dstOk N d = true) : SimE N w0 D0 E' (put (scrS l st) d av ob) (a.put d v) E'.w := by
  have := sim_upd hE g (fun t => (hE.tmps t).lex le) ho hr hd (lk := none) (fun _ _ _ _ h => by cases h)
  cases d <;> exact this
/-- A load from an own row gives what lies there. -/
theorem link_ld (hE : SimE N w0 D0 E st a w) {t : TypeId} {p : Operand} {x : X} {n : Nat} (hc : compLd P t p = some (.ld x n false)) {r i f sz z : Nat} {L T : List V} {e : V} (hx : st.get x = .ptr r i f) (ho : st.objs r = some (.row true sz L)) (hi : L[i]? = some e) (hf : e.cells[f]? = some (.sl z T)) :
    ∃ v, (Instr.loadAt t (a.eval p)).run P w = .ok v w ∧ Link E r i f v := by
  have eo := hE.eo
  have ew := hE.ew
  unfold compLd at hc
  split at hc
  · rename_i x' n' ag hx' hn ha
    simp only [Option.some.injEq, MO.ld.injEq] at hc
    obtain ⟨rfl, rfl, rfl⟩ := hc
    have hg := get_rep hE hx'
    rw [hx] at hg
    generalize hz : a.eval p = y at hg
    cases hg with
    | ptrRow hr h h' =>
      have ho' : E.objs r = some (.row true sz L) := by rw [eo]; exact ho
      obtain ⟨hil, g, o, hl, rfl⟩ := h _ _ _ ho'
      have hroot := hE.good.roots r _ ho'
      simp only [RootRep, hl] at hroot
      obtain ⟨vs, ⟨cur, ty, hcur, hcells⟩, hU, hR⟩ := hroot
      obtain ⟨ws, q1, q2, q3⟩ := flat_at hU hR hi
      obtain ⟨u, hu, _⟩ := q1.get hf
      have h1 := hcells _ u (q3 f u hu)
      rw [← Nat.add_assoc] at h1
      refine ⟨u, ?_, sz, L, e, z, T, g, o, cur, ty, ho', hi, hf, hl, hcur, h1⟩
      have hcell : w.cell? ⟨g, o + i * sz + f, none⟩ = some u := by
        rw [ew] at hcur
        simp [World.cell?, hcur, h1]
      have hrun := run_loadOne (P := P) hcell ha
      simp [Instr.loadAt, Instr.sureAddr, hrun]
  · cases hc

/-- The guard of an operation, read. -/
def compG (ops : Array Oper) : Option (Nat × Bool) → Option (Option (Nat × Bool))
  | none => some none
  | some (j, b) => match (ops[j]?).bind (·.dst) with
    | some d => some (some (d, b))
    | none => none

theorem wants_run (hE : SimE N w0 D0 E st a w) {ops : Array Oper} {o : Oper} {g : Option (Nat × Bool)} (hg : compG ops o.guard = some g) {b : Bool} (hw : wants st g = some b) : Region.wanted o (yielded ops a.tmps) = b := by
  unfold compG at hg
  split at hg
  · rename_i hgd
    simp only [Option.some.injEq] at hg; subst hg
    simp only [wants, Option.some.injEq] at hw; subst hw
    simp [Region.wanted, hgd]
  · rename_i j c hgd
    split at hg
    · rename_i d hd
      simp only [Option.some.injEq] at hg; subst hg
      simp only [wants] at hw
      have ht := hE.tmps d
      simp only [Region.wanted, hgd, yielded, hd, Option.bind_some]
      split at hw
      · rename_i x hx
        simp only [Option.some.injEq] at hw
        rw [hx] at ht
        generalize hv : a.tmps.getD d undef = v at ht
        cases ht with
        | val0 h =>
          cases h
          have : a.tmps[d]? = some (.bool x) := by
            rw [Array.getD_eq_getD_getElem?] at hv
            cases hq : a.tmps[d]? with
            | none => rw [hq] at hv; simp [undef] at hv
            | some y => rw [hq] at hv; simpa using hv
          rw [this, ← hw]
          cases x <;> cases c <;> rfl
      · rename_i hx
        simp only [Option.some.injEq] at hw
        rw [hx] at ht
        generalize hv : a.tmps.getD d undef = v at ht
        cases ht with
        | tup h =>
          cases h
          have : ∀ x, a.tmps[d]? ≠ some (.bool x) := by
            intro x hq
            rw [Array.getD_eq_getD_getElem?, hq] at hv
            simp at hv
          rw [← hw]
          cases hq : a.tmps[d]? with
          | none => rfl
          | some y =>
            cases y <;> first | rfl | exact absurd hq (this _)
      · cases hw
    · cases hg

/-- One operation of a region. -/
theorem step_wp (hE : SimE N w0 D0 E st a w) {ops : Array Oper} {i : Nat} {o : Oper} (hi : ops[i]? = some o) {md : Md} {mv : Bool} {m : MI} (hg : compG ops o.guard = some m.gd) (hop : compO P md mv o = some m.op) (hdst : o.dst = m.dst) (hd : dstOk N m.dst = true)
    {id : Nat} (hf : ∀ k, k < 64 → st.objs (id + k) = none) {st' : St} (hs : Step P st id m st') {K : Act → World → Prop} {Q : Exit → Act → World → Prop} (hk : ∀ E' a' w', SimE N w0 D0 E' st' a' w' → K a' w') : wpOp P ops Q i K a w := by
  have ew := hE.ew
  have eo := hE.eo
  unfold wpOp
  rw [hi]
  simp only
  rcases hs with ⟨hw, rfl⟩ | ⟨hw, av, ob, hso, rfl⟩ | ⟨hgd, hx⟩
  · rw [if_neg (by rw [wants_run hE hg hw]; simp)]
    have := sim_put hE (Env.Le.refl E) hE.good hE.eo (av := .undef) (v := undef) (by simpa [undef] using AvRep.tup (E := E) AvReps.nil) hd
    rw [ew] at this
    rw [hdst]
    exact hk E _ _ this
  · rw [if_pos (by rw [wants_run hE hg hw])]
    refine .inl ?_
    have hdoes := does_o hE hf hop hso
    have := hdoes K Q (fun E' v le g ho hr => by
      have h := sim_put hE le g ho hr hd
      rw [hdst]
      exact hk E' _ _ h)
    rw [ew] at this
    exact this
  · rw [if_pos (by rw [wants_run hE hg hgd])]
    refine .inl ?_
    obtain ⟨md', gd', op'⟩ := m
    dsimp only at hgd hx hop hdst hd hg
    split at hx
    · rename_i mo
      -- a value
      obtain ⟨d, hmd, hx⟩ := hx
      subst hmd
      have hmo : compP P o.op = some mo := by
        unfold compO at hop
        split at hop
        · simp at hop
        · split at hop
          · rename_i mo' h1
            simp only [Option.some.injEq, AO.p.injEq] at hop
            rw [h1, hop.2]
          · split at hop
            · obtain ⟨kk, hop⟩ := compO_call hop
              unfold compCall at hop
              split at hop
              · simp at hop
              · split at hop <;> simp at hop
              · cases hop
            · cases hop
      rcases hx with ⟨av, hev, rfl⟩ | ⟨x, n, r, i', f, sz, L, e, z, T, rfl, hx1, hx2, hx3, hx4, rfl⟩
      · have hy := ev_sound (P := P) hE hmo hev
        obtain ⟨v, hrun, hv⟩ := hy
        unfold Oper.wp
        rw [hrun]
        show K (a.put o.dst v) w
        rw [hdst]
        have hlt : d < a.tmps.size := Nat.lt_of_lt_of_le (dstOk_lt hd).1 hE.size
        have := sim_upd hE hE.good (fun t => hE.tmps t) eo hv (d := some d) hd (lk := (putk st d av).lk) (by
          intro t r i f h
          unfold putk at h
          dsimp only at h
          split at h
          · rename_i t' x' hlk
            split at h
            · cases h
            · rename_i hne
              simp only [Option.some.injEq, Prod.mk.injEq] at h
              obtain ⟨rfl, rfl⟩ := h
              rw [getD_put hne]
              exact hE.lk _ _ _ _ hlk
          · cases h)
        rw [ew] at this
        exact hk E _ _ this
      · obtain ⟨dst, op, ty, pos, after, guard⟩ := o
        cases op <;> simp only [compP] at hmo <;> try (cases hmo; done)
        case load t p =>
          obtain ⟨v, hrun, hlnk⟩ := link_ld hE hmo hx1 hx2 hx3 hx4
          unfold Oper.wp
          have : (execOp a.eval ⟨dst, .load t p, ty, pos, after, guard⟩).run P w = .ok (.value v) w := execOp_value rfl hrun
          rw [this]
          have hdst : dst = some d := hdst
          show K (a.put dst v) w
          rw [hdst]
          have hlt : d < a.tmps.size := Nat.lt_of_lt_of_le (dstOk_lt hd).1 hE.size
          have := sim_upd hE hE.good (fun t => hE.tmps t) eo (av := .bad) (v := v) .bad (d := some d) hd (lk := some (d, r, i', f)) (by
            intro t r2 i2 f2 h
            simp only [Option.some.injEq, Prod.mk.injEq] at h
            obtain ⟨rfl, rfl, rfl, rfl⟩ := h
            rw [getD_put_same hlt]
            exact hlnk)
          rw [ew] at this
          exact hk E _ _ this
        all_goals
          exfalso
          first
            | (obtain ⟨_, _, h⟩ := Option.map_eq_some_iff.1 hmo; cases h; done)
            | (simp only [compPick, compBin, compUn, compConv, compFad, compFld, compIad, compIdx, compSlc, compMkf, compBui, compAsg, compLk] at hmo
               (repeat' split at hmo) <;> simp at hmo)
    · rename_i f x xs
      obtain ⟨hok, hx⟩ := hx
      have hcall : ∃ c px ps, o.op = .call c ∧ c.callee = .value (.func f) ∧ c.args.toList = px :: ps ∧ compX px = some x ∧ compXs ps = some xs := by
        unfold compO at hop
        split at hop
        · simp at hop
        · split at hop
          · simp at hop
          · split at hop
            · rename_i c hcop
              obtain ⟨kk, hop⟩ := compO_call hop
              unfold compCall at hop
              split at hop
              · rename_i f' hcal
                obtain ⟨ys, hys, he⟩ := Option.map_eq_some_iff.1 hop
                simp only [AO.call.injEq] at he
                obtain ⟨_, rfl, rfl⟩ := he
                generalize hargs : c.args.toList = al at hys
                cases al with
                | nil => simp [compXs] at hys
                | cons px ps =>
                  simp only [compXs] at hys
                  split at hys
                  · rename_i y ys' h1 h2
                    simp only [Option.some.injEq, List.cons.injEq] at hys
                    obtain ⟨rfl, rfl⟩ := hys
                    exact ⟨c, px, ps, hcop, hcal, hargs, h1, h2⟩
                  · cases hys
              · split at hop <;> simp at hop
              · cases hop
            · cases hop
      obtain ⟨c, px, ps, hcop, hcal, hargs, hpx, hps⟩ := hcall
      have hrun : (execOp a.eval o).run P w = .ok (.enter f (a.eval px :: ps.map a.eval).toArray) w := by
        have e : c.args.map a.eval = (a.eval px :: ps.map a.eval).toArray := by
          apply Array.ext'
          rw [Array.toList_map, hargs]
          rfl
        rw [← e]
        simp only [execOp, hcop, resolve, hcal, Act.eval, Deferred.ofValue, Sem.run_bind, Sem.run_pure, Result.andThen_ok, invoke]
        rw [callFunc_run hok]
        congr 2
        apply Array.ext'
        simp
      rcases hx with ⟨ro, rv, hsn, hp, hx⟩ | ⟨r, off, len, own, sz, L, ro, res, ln, hgx, hobj, hsn, hcon, hfit, hcl, rfl⟩ | ⟨r, ks, cs, cs', ro, res, hgx, hobj, hks, hsn, hcon, hfit, rfl⟩ | ⟨cs, ro, hsn, hcon, rfl⟩
      rotate_left
      · have hlv : live (st.objs r) = true := by rw [hobj]; rfl
        obtain ⟨E2, rfl, le2, hE2⟩ := sim_dead hE hlv
        have hro := trav_snap hE2 (AvReps.le le2 (gets_rep hE hps)) hsn
        have hgx' := get_rep hE hpx
        rw [hgx] at hgx'
        have hdoes := does_callX hE (x := a.eval px) hgx' hobj hcon hro hfit hcl hf hrun
        have := hdoes K Q (fun E' v le g ho hr => by
          have h := sim_put hE le g ho hr hd
          rw [hdst]
          exact hk E' _ _ h)
        rw [ew] at this
        exact this
      · have hgx' := get_rep hE hpx
        rw [hgx] at hgx'
        have hdoes := does_callP hE (x := a.eval px) hgx' hobj hks hcon (lend_kill hE (gets_rep hE hps) hsn) hfit hf hrun
        have := hdoes K Q (fun E' v le g ho hr => by
          have h := sim_put hE le g ho hr hd
          rw [hdst]
          exact hk E' _ _ h)
        rw [ew] at this
        exact this
      · have hro : Reps w E.D false ro (a.eval px :: ps.map a.eval) Emp := by
          have := trav_snap hE (AvReps.cons (get_rep hE hpx) (gets_rep hE hps)) hsn
          refine this.keep ?_ (fun h => by cases h)
          rintro q (hq | ⟨hq, _⟩)
          · exact ⟨hq, rfl⟩
          · cases hq
        have hdoes := does_callN hE hcon hro hf hrun
        have := hdoes K Q (fun E' v le g ho hr => by
          have h := sim_put hE le g ho hr hd
          rw [hdst]
          exact hk E' _ _ h)
        rw [ew] at this
        exact this
      have hro : Reps w E.D false ro (ps.map a.eval) Emp := by
        have := trav_snap hE (gets_rep hE hps) hsn
        refine this.keep ?_ (fun h => by cases h)
        rintro q (hq | ⟨hq, _⟩)
        · exact ⟨hq, rfl⟩
        · cases hq
      rcases hx with ⟨r, l, r', ht, hn, hlk, hcon, rfl⟩ | ⟨t, r, i', f0, sz, L, e, z, T, T', rfl, hlk, hobj, hel, hf0, hcon, hlen, rfl⟩
      · have hdoes := does_callM hE hcon (get_rep hE hpx) ht hn hlk hp hro hrun
        have := hdoes K Q (fun E' v le g ho hr => by
          have h := sim_putM hE le g ho hr hd
          rw [hdst]
          exact hk E' _ _ h)
        rw [ew] at this
        exact this
      · have hpt : px = .tmp t := by
          unfold compX at hpx
          split at hpx
          · simp only [Option.some.injEq, X.t.injEq] at hpx; rw [hpx]
          · obtain ⟨_, _, h⟩ := Option.map_eq_some_iff.1 hpx; cases h
          · simp at hpx
          · cases hpx
        subst hpt
        have hlnk := hE.lk _ _ _ _ hlk
        have hdoes := does_callL hE (x := a.eval (.tmp t)) hlnk hobj hel hf0 hcon hlen hp hro hrun
        have := hdoes K Q (fun E' v le g ho hr => by
          have h := sim_putM hE le g ho hr hd
          rw [hdst]
          exact hk E' _ _ h)
        rw [ew] at this
        exact this
    · exact hx.elim
end
end Go.Ab
