/- One operation, a region, code: what the abstract frame says of the machine's (own framework). -/
import Derived.Test.YtcjbdiiffpkdoaaA15
set_option linter.unusedVariables false
set_option linter.unusedSimpArgs false
namespace Go.Ab
open Go.RowKit

/-- An operation, read. -/
inductive AO where
  | p (m : MO)
  | f (m : FO)
  | call (f : Nat) (args : List X)
  | callv (g : X) (args : List X)
  deriving Inhabited
structure MI where
  dst : Option Nat
  gd : Option (Nat × Bool)
  op : AO
  deriving Inhabited

def compCall (c : Call) : Option AO := match c.callee with
  | .value (.func f) => (compXs c.args.toList).map (AO.call f)
  | .value p => match compX p, compXs c.args.toList with
    | some g, some xs => some (.callv g xs)
    | _, _ => none
  | _ => none
/-- mv: what is appended is not used again. -/
def compO (P : Program) (mv : Bool) (o : Oper) : Option AO :=
  match compF P o.type mv o.op with
  | some m => some (.f m)
  | none => match compP P o.op with
    | some m => some (.p m)
    | none => match o.op with
      | .call c => compCall c
      | _ => none

/-- The function behind a value, with what it holds. -/
def fnOf (s : St) : AV → Option (Nat × List AV)
  | .fn f cs => some (f, cs)
  | c => match s.view c with
    | some (src, .fn f caps) => some (f, caps.map (AV.val src))
    | _ => none

def put (s : St) (d : Option Nat) (av : AV) (ob : Objs) : St := match d with
  | some d => { s with tmps := upd s.tmps d av, objs := ob }
  | none => { s with objs := ob }

/-- A call: by its contract, the arguments lent (ln) or not. -/
def CallS (P : Program) (s : St) (id f : Nat) (cs : List AV) (av : AV) (ob : Objs) : Prop :=
  ∃ ln Vs res, okFn P f = true ∧ trav (snap ln s 8) cs = some Vs ∧ Con P f Vs res ∧ res.fits = true ∧ (ln = true → res.clean = true) ∧ av = (plV id s.objs res).1 ∧ ob = (plV id s.objs res).2

/-- What an operation makes of the frame. -/
def StepO (P : Program) (s : St) (id : Nat) : AO → AV → Objs → Prop
  | .p m, av, ob => ev s m = some av ∧ ob = s.objs
  | .f m, av, ob => eff s id m = some (av, ob)
  | .call f xs, av, ob => CallS P s id f (xs.map s.get) av ob
  | .callv g xs, av, ob => ∃ f caps, fnOf s (s.get g) = some (f, caps) ∧ CallS P s id f (xs.map s.get ++ caps) av ob

def wants (s : St) : Option (Nat × Bool) → Option Bool
  | none => some true
  | some (d, b) => match s.tmps d with
    | .val none (.bool c) => some (c == b)
    | .tup [] => some false
    | _ => none

def Step (P : Program) (s : St) (id : Nat) (m : MI) (s' : St) : Prop :=
  (wants s m.gd = some false ∧ s' = put s m.dst .undef s.objs) ∨ (wants s m.gd = some true ∧ ∃ av ob, StepO P s id m.op av ob ∧ s' = put s m.dst av ob)

section
variable {P : Program} {N : Nat} {w0 : World} {D0 : BSet} {E : Env} {st : St} {a : Act} {w : World}

theorem trav_snap (hE : SimE N w0 D0 E st a w) {ln : Bool} {cs : List AV} {xs : List Value} {Vs : List V} (h : AvReps E cs xs) (ht : trav (snap ln st 8) cs = some Vs) : Reps w (Lent E ln) false Vs xs Emp :=
  trav_rep (fun c v x hx hs => snap_rep hE 8 c v x hx hs) h ht

theorem does_f (hE : SimE N w0 D0 E st a w) {id : Nat} (hf : ∀ k, k < 64 → st.objs (id + k) = none) {o : Oper} {mv : Bool} {m : FO} (hc : compF P o.type mv o.op = some m) {av : AV} {ob : Objs} (he : eff st id m = some (av, ob)) : Does P w0 D0 E a o av ob := by
  have ew := hE.ew
  have hf0 : st.objs id = none := by simpa using hf 0 (by omega)
  obtain ⟨dst, op, ty, pos, after, guard⟩ := o
  refine does_of_out ?_
  rw [ew]
  cases op <;> simp only [compF] at hc <;> try (cases hc; done)
  case box t x =>
    obtain ⟨y, hx, rfl⟩ := Option.map_eq_some_iff.1 hc
    simp only [eff] at he
    split at he
    · rename_i cs hcs
      simp only [Option.some.injEq, Prod.mk.injEq] at he
      obtain ⟨rfl, rfl⟩ := he
      obtain ⟨E', le, g, ho, hr, hv⟩ := eff_box (P := P) hE hf0 hx hcs t
      exact ⟨_, E', le, g, rfl, ho, .inl ⟨_, by simp only [execOp, Sem.run_bind, hr, Result.andThen_ok, Sem.run_pure], hv⟩⟩
    · cases he
  case alloc t =>
    obtain ⟨E', v, le, g, ho, hr, hv⟩ := eff_alloc (P := P) hE hf hc he
    exact ⟨_, E', le, g, rfl, ho, .inl ⟨_, by simp only [execOp, Sem.run_bind, hr, Result.andThen_ok, Sem.run_pure], hv⟩⟩
  case build t ps =>
    obtain ⟨E', v, le, g, ho, hw, hr, hv⟩ := eff_bld (P := P) hE hf hc he
    exact ⟨w, E', le, g, hw, ho, .inl ⟨_, by simp only [execOp, Sem.run_bind, hr, Result.andThen_ok, Sem.run_pure], hv⟩⟩
  case assign x =>
    obtain ⟨E', le, g, ho, hw, hv⟩ := eff_asg (P := P) hE hf0 hc he
    exact ⟨w, E', le, g, hw, ho, .inl ⟨_, by simp [execOp], hv⟩⟩
  case slice t x lo hi mx =>
    obtain ⟨E', v, le, g, ho, hw, hr, hv⟩ := eff_slc3 (P := P) hE hf0 hc he
    exact ⟨w, E', le, g, hw, ho, .inl ⟨_, by simp only [execOp, Sem.run_bind, hr, Result.andThen_ok, Sem.run_pure], hv⟩⟩
  case buildSlice t n ps =>
    obtain ⟨E', v, le, g, ho, hr, hv⟩ := eff_bsl (P := P) hE hf0 hc he
    exact ⟨_, E', le, g, rfl, ho, .inl ⟨_, by simp only [execOp, Sem.run_bind, hr, Result.andThen_ok, Sem.run_pure], hv⟩⟩
  case makeSlice t l c =>
    obtain ⟨E', v, le, g, ho, hr, hv⟩ := eff_mks (P := P) hE hf0 hc he
    exact ⟨_, E', le, g, rfl, ho, .inl ⟨_, by simp only [execOp, Sem.run_bind, hr, Result.andThen_ok, Sem.run_pure], hv⟩⟩
  case store t x v =>
    obtain ⟨E', le, g, ho, hr, rfl⟩ := eff_st (P := P) (id := id) hE hc he
    exact ⟨_, E', le, g, rfl, ho, .inr ⟨by simp only [execOp, Sem.run_bind, hr, Result.andThen_ok, Sem.run_pure], rfl⟩⟩
  case call c =>
    obtain ⟨E', v, le, g, ho, hr, hv⟩ := eff_app (P := P) (ty := ty) hE hf hc he
    exact ⟨_, E', le, g, rfl, ho, .inl ⟨_, by simp only [execOp]; exact hr, hv⟩⟩

theorem vals_rep (hE : SimE N w0 D0 E st a w) {src : Option Nat} (hs : SrcOk E src) : ∀ {cs : List V} {vs : List Value}, Reps w (Dof E src) false cs vs Emp → AvReps E (cs.map (AV.val src)) vs
  | [], vs, h => by cases h; exact .nil
  | c :: cs, _, .cons h1 h2 _ s1 s2 => by
    refine .cons ?_ (vals_rep hE hs (h2.wide s2))
    cases src with
    | none => exact .val0 (by rw [hE.ew]; exact h1.wide s1)
    | some r => exact .val1 (by intro e; simp [SrcOk, e, live] at hs) (fun _ => by rw [hE.ew]; exact h1.wide s1)

theorem fnOf_rep (hE : SimE N w0 D0 E st a w) {c : AV} {x : Value} (h : AvRep E c x) {f : Nat} {caps : List AV} (hf : fnOf st c = some (f, caps)) : ∃ cs, x = .func (.func f) #[] cs.toArray ∧ AvReps E caps cs := by
  unfold fnOf at hf
  split at hf
  · simp only [Option.some.injEq, Prod.mk.injEq] at hf
    obtain ⟨rfl, rfl⟩ := hf
    cases h with
    | fn h => exact ⟨_, rfl, h⟩
  · split at hf
    · rename_i src f' cps hv
      simp only [Option.some.injEq, Prod.mk.injEq] at hf
      obtain ⟨rfl, rfl⟩ := hf
      obtain ⟨hr, hs⟩ := view_rep hE h hv
      cases hr with
      | fn hr => exact ⟨_, rfl, vals_rep hE hs hr⟩
    · cases hf

theorem does_o (hE : SimE N w0 D0 E st a w) {id : Nat} (hf : ∀ k, k < 64 → st.objs (id + k) = none) {o : Oper} {mv : Bool} {m : AO} (hc : compO P mv o = some m) {av : AV} {ob : Objs} (hs : StepO P st id m av ob) : Does P w0 D0 E a o av ob := by
  have ew := hE.ew
  have eo := hE.eo
  unfold compO at hc
  split at hc
  · rename_i fo hfo
    simp only [Option.some.injEq] at hc; subst hc
    exact does_f hE hf hfo hs
  · split at hc
    · rename_i mo hmo
      simp only [Option.some.injEq] at hc; subst hc
      obtain ⟨h1, rfl⟩ := hs
      have := does_of_yld (P := P) hE.good (by rw [ew]; exact ev_sound (P := P) hE hmo h1)
      rw [eo] at this
      exact this
    · split at hc
      · rename_i c hop
        unfold compCall at hc
        split at hc
        · rename_i f hcal
          obtain ⟨xs, hxs, rfl⟩ := Option.map_eq_some_iff.1 hc
          obtain ⟨ln, Vs, res, hok, hsn, hcon, hfit, hcl, rfl, rfl⟩ := hs
          have hargs := trav_snap hE (gets_rep hE hxs) hsn
          refine does_call hE hcon hargs hfit hcl hf ?_
          simp only [execOp, hop, resolve, hcal, Act.eval, Deferred.ofValue, Sem.run_bind, Sem.run_pure, Result.andThen_ok, invoke]
          rw [callFunc_run hok]
          congr 2
          apply Array.ext'
          simp
        · rename_i p _ hcal
          split at hc
          · rename_i g xs hg hxs
            simp only [Option.some.injEq] at hc; subst hc
            obtain ⟨f, caps, hfn, ln, Vs, res, hok, hsn, hcon, hfit, hcl, rfl, rfl⟩ := hs
            obtain ⟨cs, hx, hcaps⟩ := fnOf_rep hE (get_rep hE hg) hfn
            have hargs := trav_snap hE ((gets_rep hE hxs).append hcaps) hsn
            refine does_call hE hcon hargs hfit hcl hf ?_
            simp only [execOp, hop, resolve, hcal, hx, Deferred.ofValue, Sem.run_bind, Sem.run_pure, Result.andThen_ok, invoke]
            rw [callFunc_run hok]
            congr 2
            apply Array.ext'
            simp
          · cases hc
        · cases hc
      · cases hc

theorem sim_put (hE : SimE N w0 D0 E st a w) {E' : Env} (le : E.Le E') (g : Good w0 D0 E') {av : AV} {v : Value} {ob : Objs} (ho : E'.objs = ob) (hr : AvRep E' av v) {d : Option Nat} (hd : ∀ t, d = some t → t < N) : SimE N w0 D0 E' (put st d av ob) (a.put d v) E'.w := by
  cases d with
  | none => exact ⟨g, rfl, ho, hE.size, hE.defers, fun t => (hE.tmps t).le le⟩
  | some d =>
    have hlt := hd d rfl
    refine ⟨g, rfl, ho, by simpa [Act.put] using hE.size, hE.defers, fun t => ?_⟩
    simp only [put, Act.put]
    by_cases e : t = d
    · subst e
      rw [upd_same]
      have : t < a.tmps.size := Nat.lt_of_lt_of_le hlt hE.size
      simpa [Array.getD, this] using hr
    · rw [upd_ne e]
      have : (a.tmps.setIfInBounds d v).getD t undef = a.tmps.getD t undef := by
        simp only [Array.getD_eq_getD_getElem?]
        rw [Array.getElem?_setIfInBounds_ne (fun h => e h.symm)]
      rw [this]
      exact (hE.tmps t).le le

/-- The guard of an operation, read. -/
def compG (ops : Array Oper) : Option (Nat × Bool) → Option (Option (Nat × Bool))
  | none => some none
  | some (j, b) => match (ops[j]?).bind (·.dst) with
    | some d => some (some (d, b))
    | none => none

theorem wants_run (hE : SimE N w0 D0 E st a w) {ops : Array Oper} {o : Oper} {g : Option (Nat × Bool)} (hg : compG ops o.guard = some g) {b : Bool} (hw : wants st g = some b) : Region.wanted o (yielded ops a.tmps) = b := by
  unfold compG at hg
  split at hg
  · rename_i hgd
    simp only [Option.some.injEq] at hg; subst hg
    simp only [wants, Option.some.injEq] at hw; subst hw
    simp [Region.wanted, hgd]
  · rename_i j c hgd
    split at hg
    · rename_i d hd
      simp only [Option.some.injEq] at hg; subst hg
      simp only [wants] at hw
      have ht := hE.tmps d
      simp only [Region.wanted, hgd, yielded, hd, Option.bind_some]
      split at hw
      · rename_i x hx
        simp only [Option.some.injEq] at hw
        rw [hx] at ht
        generalize hv : a.tmps.getD d undef = v at ht
        cases ht with
        | val0 h =>
          cases h
          have : a.tmps[d]? = some (.bool x) := by
            rw [Array.getD_eq_getD_getElem?] at hv
            cases hq : a.tmps[d]? with
            | none => rw [hq] at hv; simp [undef] at hv
            | some y => rw [hq] at hv; simpa using hv
          rw [this, ← hw]
          cases x <;> cases c <;> rfl
      · rename_i hx
        simp only [Option.some.injEq] at hw
        rw [hx] at ht
        generalize hv : a.tmps.getD d undef = v at ht
        cases ht with
        | tup h =>
          cases h
          have : ∀ x, a.tmps[d]? ≠ some (.bool x) := by
            intro x hq
            rw [Array.getD_eq_getD_getElem?, hq] at hv
            simp at hv
          rw [← hw]
          cases hq : a.tmps[d]? with
          | none => rfl
          | some y =>
            cases y <;> first | rfl | exact absurd hq (this _)
      · cases hw
    · cases hg

/-- One operation of a region. -/
theorem step_wp (hE : SimE N w0 D0 E st a w) {ops : Array Oper} {i : Nat} {o : Oper} (hi : ops[i]? = some o) {mv : Bool} {m : MI} (hg : compG ops o.guard = some m.gd) (hop : compO P mv o = some m.op) (hdst : o.dst = m.dst) (hd : ∀ t, m.dst = some t → t < N)
    {id : Nat} (hf : ∀ k, k < 64 → st.objs (id + k) = none) {st' : St} (hs : Step P st id m st') {K : Act → World → Prop} {Q : Exit → Act → World → Prop} (hk : ∀ E' a' w', SimE N w0 D0 E' st' a' w' → K a' w') : wpOp P ops Q i K a w := by
  have ew := hE.ew
  unfold wpOp
  rw [hi]
  simp only
  rcases hs with ⟨hw, rfl⟩ | ⟨hw, av, ob, hso, rfl⟩
  · rw [if_neg (by rw [wants_run hE hg hw]; simp)]
    have := sim_put hE (Env.Le.refl E) hE.good hE.eo (av := .undef) (v := undef) (by simpa [undef] using AvRep.tup (E := E) AvReps.nil) hd
    rw [ew] at this
    rw [hdst]
    exact hk E _ _ this
  · rw [if_pos (by rw [wants_run hE hg hw])]
    refine .inl ?_
    have hdoes := does_o hE hf hop hso
    have := hdoes K Q (fun E' v le g ho hr => by
      have h := sim_put hE le g ho hr hd
      rw [hdst]
      exact hk E' _ _ h)
    rw [ew] at this
    exact this
end
end Go.Ab
