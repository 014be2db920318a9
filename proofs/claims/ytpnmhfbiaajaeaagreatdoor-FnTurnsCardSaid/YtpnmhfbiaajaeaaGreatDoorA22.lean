import Derived.Test.YtpnmhfbiaajaeaaGreatDoorA21
set_option linter.unusedVariables false
set_option linter.unusedSimpArgs false
namespace Go.Ab
open Go.RowKit
inductive RS where
 | tmp (t : Nat)
 | cell (m : MO)
def compR (P : Program) : List ResultVar → Option (List RS)
 | [] => some []
 | .tmp t :: l => (compR P l).map (.tmp t :: ·)
 | .cell a ty :: l => match compLd P ty (.tmp a), compR P l with
  | some m, some l => some (.cell m :: l)
  | _, _ => none
def resAV (s : St) : List RS → Option (List AV)
 | [] => some []
 | .tmp t :: l => (resAV s l).map (s.tmps t :: ·)
 | .cell m :: l => match ev s m, resAV s l with
  | some c, some l => some (c :: l)
  | _, _ => none
def take1 (s : St) (c : AV) : Option (R1 × List Nat) := match snap false s 8 c with
 | some v => some (.val v, [])
 | none => match c with
  | .sl r off len => match s.objs r with
   | some (.row own sz L) => some (.row own sz ((L.drop off).take len), [r])
   | _ => none
  | _ => none
def take1L (s : St) : List AV → Option (List R1 × List Nat)
 | [] => some ([], [])
 | c :: cs => match take1 s c, take1L s cs with
  | some (r, l), some (rs, ls) => some (r :: rs, l ++ ls)
  | _, _ => none
def take2 (s : St) (c : AV) : Option (R2 × List Nat) := match take1 s c with
 | some (r, l) => some (.one r, l)
 | none => match c with
  | .agg cs => match take1L s cs with
   | some (rs, l) => some (.agg rs, l)
   | none => none
  | _ => none
def take2L (s : St) : List AV → Option (List R2 × List Nat)
 | [] => some ([], [])
 | c :: cs => match take2 s c, take2L s cs with
  | some (r, l), some (rs, ls) => some (r :: rs, l ++ ls)
  | _, _ => none
def mkRV : List R2 → RV
 | [r] => .one r
 | rs => .tup rs
def Gives (s : St) (cs : List AV) (res : RV) : Prop :=
 (∃ rs l, take2L s cs = some (rs, l) ∧ l.Nodup ∧ res = mkRV rs) ∨ (∃ vs, trav (snap true s 8) cs = some vs ∧ res = mkRV (vs.map R2.v))
def start (args : List V) : St := ⟨fun t => match args[t]? with
 | some v => .val none v
 | none => .undef, fun _ => none, 0, none⟩
section
variable {P : Program} {N : Fr} {w0 : Base} {D0 : BSet} {E : Env} {st : St} {a : Act} {w : World}
def Env.owns (E : Env) (l : List Nat) (g : Nat) : Prop := ∃ r, r ∈ l ∧ live (E.objs r) = true ∧ E.own r g
theorem owns_apart (hg : Good w0 D0 E) {l l' : List Nat} (hn : (l ++ l').Nodup) : ∀ q, E.owns l q → ¬ E.owns l' q := by
 rintro q ⟨r, h1, h2, h3⟩ ⟨r', k1, k2, k3⟩
 have hne : r ≠ r' := (List.nodup_append.1 hn).2.2 r h1 r' k1
 exact hg.apart r r' hne h2 k2 q h3 k3
theorem R1Rep.wider {w : World} {D : BSet} {r : R1} {x : Value} {S S' : BSet} (h : R1Rep w D r x S) (hs : ∀ q, S q → S' q) : R1Rep w D r x S' := by
 cases h with
 | val h => exact .val h
 | nil => exact .nil
 | row hS hT hg hb hu h hc hm hz => exact .row (hs _ hS) (fun q h => hs q (hT q h)) hg hb hu h hc hm hz
theorem take1_rep (hE : SimE N w0 D0 E st a w) {c : AV} {x : Value} {r : R1} {l : List Nat} (h : AvRep E c x) (ht : take1 st c = some (r, l)) : R1Rep w E.D r x (E.owns l) := by
 have ew := hE.ew
 have eo := hE.eo
 unfold take1 at ht
 split at ht
 ·rename_i v hs
  simp only [Option.some.injEq, Prod.mk.injEq] at ht
  obtain ⟨rfl, rfl⟩ := ht
  refine .val ((snap_rep hE 8 c v x h hs).keep ?_ (fun h => by cases h))
  rintro g (hg | ⟨hg, _⟩)
  ·exact ⟨hg, rfl⟩
  ·cases hg
 ·split at ht
  ·rename_i r off len _
   split at ht
   ·rename_i own sz L ho
    simp only [Option.some.injEq, Prod.mk.injEq] at ht
    obtain ⟨rfl, rfl⟩ := ht
    have ho' : E.objs r = some (.row own sz L) := by rw [eo]; exact ho
    obtain ⟨ad, c, vs, rfl, hlc, hm, hvl, hrv, hu, hle, hpl⟩ := part_cells hE.good h ho'
    have hlen : ((L.drop off).take len).length = len := by simp; omega
    have hlv : live (E.objs r) = true := live_row ho'
    rcases hpl with ⟨rfl, rfl⟩ | ⟨g, o, cur, e, hl, rfl, hh, hs, hcells⟩
    ·have hl0 : len = 0 := by omega
     subst hl0
     simpa using R1Rep.nil (w := w) (D := E.D)
    ·have := R1Rep.row (w := w) (D := E.D) (own := own) (sz := sz) (L := (L.drop off).take len) (g := g) (o := o + off * sz) (c := c) (vs := vs) (S := E.owns [r]) (T := E.S r)
      ⟨r, by simp, hlv, .inr ⟨o, hl⟩⟩ (fun q hq => ⟨r, by simp, hlv, .inl hq⟩) (hE.good.ownS r hlv g o hl) (by rw [← ew]; exact ⟨cur, e, hh, hcells⟩) hu (by rw [← ew]; exact hrv)
      (by rw [hlen]; exact hlc) hm ⟨cur, e, by rw [← ew]; exact hh, fun _ => by rw [Nat.add_mul] at hs; omega⟩
     rw [hlen] at this
     exact this
   ·cases ht
  ·cases ht
theorem take1L_rep (hE : SimE N w0 D0 E st a w) : ∀ {cs : List AV} {xs : List Value} {rs : List R1} {l : List Nat}, AvReps E cs xs → take1L st cs = some (rs, l) → l.Nodup → R1Reps w E.D rs xs (E.owns l)
 | [], _, rs, l, .nil, ht, hn => by
  simp only [take1L, Option.some.injEq, Prod.mk.injEq] at ht
  obtain ⟨rfl, rfl⟩ := ht
  exact .nil
 | c :: cs, _, rs, l, .cons h hs, ht, hn => by
  simp only [take1L] at ht
  split at ht
  ·rename_i h1 h2
   simp only [Option.some.injEq, Prod.mk.injEq] at ht
   obtain ⟨rfl, rfl⟩ := ht
   exact .cons (take1_rep hE h h1) (take1L_rep hE hs h2 (List.nodup_append.1 hn).2.1) (owns_apart hE.good hn) (fun q ⟨r, k1, k2⟩ => ⟨r, by simp [k1], k2⟩) (fun q ⟨r, k1, k2⟩ => ⟨r, by simp [k1], k2⟩)
  ·cases ht
theorem take2_rep (hE : SimE N w0 D0 E st a w) {c : AV} {x : Value} {r : R2} {l : List Nat} (h : AvRep E c x) (ht : take2 st c = some (r, l)) (hn : l.Nodup) : R2Rep w E.D r x (E.owns l) := by
 unfold take2 at ht
 split at ht
 ·rename_i h1
  simp only [Option.some.injEq, Prod.mk.injEq] at ht
  obtain ⟨rfl, rfl⟩ := ht
  exact .one (take1_rep hE h h1)
 ·split at ht
  ·split at ht
   ·rename_i h1
    simp only [Option.some.injEq, Prod.mk.injEq] at ht
    obtain ⟨rfl, rfl⟩ := ht
    cases h with
    | agg k1 h => exact .agg k1 (take1L_rep hE h h1 hn)
   ·cases ht
  ·cases ht
theorem take2L_rep (hE : SimE N w0 D0 E st a w) : ∀ {cs : List AV} {xs : List Value} {rs : List R2} {l : List Nat}, AvReps E cs xs → take2L st cs = some (rs, l) → l.Nodup → R2Reps w E.D rs xs (E.owns l)
 | [], _, rs, l, .nil, ht, hn => by
  simp only [take2L, Option.some.injEq, Prod.mk.injEq] at ht
  obtain ⟨rfl, rfl⟩ := ht
  exact .nil
 | c :: cs, _, rs, l, .cons h hs, ht, hn => by
  simp only [take2L] at ht
  split at ht
  ·rename_i h1 h2
   simp only [Option.some.injEq, Prod.mk.injEq] at ht
   obtain ⟨rfl, rfl⟩ := ht
   exact .cons (take2_rep hE h h1 (List.nodup_append.1 hn).1) (take2L_rep hE hs h2 (List.nodup_append.1 hn).2.1) (owns_apart hE.good hn) (fun q ⟨r, k1, k2⟩ => ⟨r, by simp [k1], k2⟩) (fun q ⟨r, k1, k2⟩ => ⟨r, by simp [k1], k2⟩)
  ·cases ht
def packV : List Value → Value
 | [v] => v
 | vs => .tuple vs.toArray
theorem mkRV_rep {D : BSet} {rs : List R2} {xs : List Value} {S : BSet} (h : R2Reps w D rs xs S) : RvRep w D (mkRV rs) (packV xs) S := by
 cases h with
 | nil => exact .tup .nil
 | cons h hs hd h1 h2 =>
  cases hs with
  | nil =>
   refine .one ?_
   cases h with
   | one h => exact .one (h.wider h1)
   | agg k1 h => 
    refine .agg k1 ?_
    cases h with
    | nil => exact .nil
    | cons q1 q2 q3 q4 q5 => exact .cons q1 q2 q3 (fun q hq => h1 q (q4 q hq)) (fun q hq => h1 q (q5 q hq))
  | cons g gs gd g1 g2 => exact .tup (.cons h (.cons g gs gd g1 g2) hd h1 h2)
theorem vals_R2 {D : BSet} : ∀ {vs : List V} {xs : List Value}, Reps w D false vs xs Emp → R2Reps w D (vs.map R2.v) xs Emp
 | [], _, .nil => .nil
 | v :: vs, _, .cons h1 h2 hd s1 s2 => by
  refine .cons (S1 := Emp) (S2 := Emp) (.one (.val ?_)) (vals_R2 (h2.wide s2)) (fun _ h => h.elim) (fun _ h => h) (fun _ h => h)
  exact h1.wide s1
theorem gives_post (hE : SimE N w0 D0 E st a w) {cs : List AV} {xs : List Value} {res : RV} (h : AvReps E cs xs) (hg : Gives st cs res) (hh : ∀ g, ¬ w0.h g) : Post w0.w D0 res (.returned (packV xs)) w := by
 have ew := hE.ew
 have good := hE.good
 have nw : ∀ g, w0.new g → w0.w.heap.size ≤ g := fun g h => h.resolve_right (hh g)
 rcases hg with ⟨rs, l, ht, hn, rfl⟩ | ⟨vs, ht, rfl⟩
 ·refine ⟨_, E.owns l, E.D, rfl, mkRV_rep (take2L_rep hE h ht hn), ?_, good.d0, ?_, by rw [← ew]; exact below_of_stays good.below hh⟩
  ·rintro g ⟨r, _, h1, h2⟩
   rw [← ew]
   exact ⟨nw g (good.ownIn r h1 g h2).1, (good.ownIn r h1 g h2).2⟩
  ·intro g hg; rw [← ew]; exact ⟨(good.dIn g hg).1, (good.dIn g hg).2.imp (fun h => h) (nw g)⟩
 ·refine ⟨_, Emp, Lent E true, rfl, mkRV_rep (vals_R2 (trav_snap hE h ht)), fun g h => h.elim, fun g h => .inl (good.d0 g h), ?_, by rw [← ew]; exact below_of_stays good.below hh⟩
  rintro g (hg | ⟨_, hg⟩)
  ·rw [← ew]; exact ⟨(good.dIn g hg).1, (good.dIn g hg).2.imp (fun h => h) (nw g)⟩
  ·obtain ⟨r, h1, h2⟩ := hg
   obtain ⟨q1, q2, _⟩ := good.ownIn r h1 g h2
   rw [← ew]
   exact ⟨q2, .inr (nw g q1)⟩
def resF (tmps : Array Value) : ResultVar → Sem Value
 | .tmp t => pure (tmps.getD t undef)
 | .cell x t => do loadVar t (← asAddr (tmps.getD x undef))
theorem res_run (hE : SimE N w0 D0 E st a w) : ∀ {rv : List ResultVar} {rs : List RS} {cs : List AV}, compR P rv = some rs → resAV st rs = some cs →
  ∃ xs, (rv.mapM (resF a.tmps)).run P w = .ok xs w ∧ AvReps E cs xs
 | [], rs, cs, hc, hr => by
  simp only [compR, Option.some.injEq] at hc; subst hc
  simp only [resAV, Option.some.injEq] at hr; subst hr
  exact ⟨[], by simp, .nil⟩
 | .tmp t :: rv, rs, cs, hc, hr => by
  simp only [compR] at hc
  obtain ⟨rs', h1, rfl⟩ := Option.map_eq_some_iff.1 hc
  simp only [resAV] at hr
  obtain ⟨cs', h2, rfl⟩ := Option.map_eq_some_iff.1 hr
  obtain ⟨xs, h3, h4⟩ := res_run hE h1 h2
  refine ⟨a.tmps.getD t undef :: xs, ?_, .cons (hE.tmps t) h4⟩
  simp only [List.mapM_cons, resF, Sem.run_bind, Sem.run_pure, Result.andThen_ok, h3]
 | .cell x t :: rv, rs, cs, hc, hr => by
  simp only [compR] at hc
  split at hc
  ·rename_i m rs' hm h1
   simp only [Option.some.injEq] at hc; subst hc
   simp only [resAV] at hr
   split at hr
   ·rename_i c cs' he h2
    simp only [Option.some.injEq] at hr; subst hr
    obtain ⟨xs, h3, h4⟩ := res_run hE h1 h2
    obtain ⟨z, h5, h6⟩ := ev_ld (P := P) hE hm he
    refine ⟨z :: xs, ?_, .cons h6 h4⟩
    have h7 : (do loadVar t (← asAddr (a.tmps.getD x undef)) : Sem Value).run P w = .ok z w := by
     simp only [Instr.loadAt, Act.eval] at h5
     generalize a.tmps.getD x undef = y at h5 ⊢
     cases y with
     | pointer p => cases p with
      | none => simp [Instr.sureAddr] at h5
      | some p => exact h5
     | _ => simp [Instr.sureAddr] at h5
    simp only [List.mapM_cons, resF, Sem.run_bind, Sem.run_pure, Result.andThen_ok, h3] at h7 ⊢
    rw [h7]
    simp only [Result.andThen_ok, h3]
   ·cases hr
  ·cases hc
theorem con_of_body {f : FuncId} {fn : Func} {c : Code} {m : MC} {rs : List RS} {args : List V} {res : RV} (hf : P.funcs[f]? = some fn) (hb : fn.body = some c) (hc : compC P ⟨fn.ntmps, false⟩ c = some m) (hr : compR P fn.results.toList = some rs)
  (h : MW P ⟨fn.ntmps, false⟩ m (start args) (fun e s => (e = .normal ∨ e = .ret) ∧ ∃ cs, resAV s rs = some cs ∧ Gives s cs res)) : Con P f args res := by
 intro w D vs hD hargs
 refine calls_of_wp hf hb (wp_mono (h c hc ⟨w, Emp, undef⟩ D _ w ?_) ?_)
 ·refine ⟨⟨w, D, fun _ => Emp, fun _ => none, fun _ => none⟩, ⟨⟨Stays.refl _, fun g h => ⟨hD.lt g h, .inl h⟩, fun g h => h, fun r o h => (by cases h), fun r h => (by simp [live] at h), fun r h => (by simp [live] at h), fun r r' _ h => (by simp [live] at h), hD.tabs⟩, rfl, rfl, ?_, rfl, ?_, fun h => by (cases h), fun _ _ _ _ h => by (cases h)⟩, fun r _ => rfl⟩
  ·simp; omega
  ·intro t
   have hl := hargs.length
   simp only [start, Array.getD_eq_getD_getElem?]
   rw [Array.getElem?_append]
   split
   ·rename_i v hv
    obtain ⟨y, hy, hry⟩ := hargs.get hv
    have ht : t < vs.toArray.size := by
     have := (List.getElem?_eq_some_iff.1 hy).1
     simpa using this
    rw [if_pos ht]
    have : vs.toArray[t]? = some y := by simpa using hy
    rw [this]
    exact .val0 hry
   ·rename_i hv
    have hge : args.length ≤ t := List.getElem?_eq_none_iff.1 hv
    have hu : (AvRep ⟨w, D, fun _ => Emp, fun _ => none, fun _ => none⟩ AV.undef undef) := AvRep.tup .nil
    rw [if_neg (by simp; omega)]
    rw [Array.getElem?_replicate]
    split <;> exact hu
 ·intro e a' w' h
  cases e <;> simp only [Lift] at h <;> try exact h.elim
  all_goals
   obtain ⟨s, ⟨he, cs, h1, h2⟩, E, hE, _⟩ := h
   first | (rcases he with he | he <;> cases he; done) | skip
  all_goals
   obtain ⟨xs, h3, h4⟩ := res_run hE hr h1
   have hp := gives_post hE h4 h2 (fun g h => h)
   refine ⟨hE.defers, packV xs, ?_, hp⟩
   have e1 : results fn a'.tmps = (do
    let vs ← fn.results.mapM (resF a'.tmps)
    pure (if h : vs.size = 1 then vs[0] else .tuple vs)) := by
    unfold results
    rfl
   rw [e1, Array.mapM_eq_mapM_toList]
   simp only [Sem.run_bind, Sem.run_map, Sem.run_pure]
   rw [h3]
   simp only [Result.andThen_ok]
   congr 1
   match xs with
   | [] => rfl
   | [x] => rfl
   | x :: y :: xs => simp [packV]
def startP (cs ro : List V) : St := ⟨fun t => match t with
 | 0 => .ptr 0 0 0
 | t + 1 => match ro[t]? with
  | some v => .val none v
  | none => .undef, upd (fun _ => none) 0 (some (.box (cs.map (AV.val none)))), 64, none⟩
def GivesP (rs : List RS) (cs' : List V) (res : RV) (s : St) : Prop := ∃ cs rl l, resAV s rs = some cs ∧ take2L s cs = some (rl, l) ∧ l.Nodup ∧ l.contains 0 = false ∧ res = mkRV rl ∧ s.tmps 0 = .ptr 0 0 0 ∧ s.objs 0 = some (.box (cs'.map (AV.val none)))
theorem conP_of_body {f : FuncId} {fn : Func} {c : Code} {m : MC} {rs : List RS} {cs cs' ro : List V} {res : RV} (hf : P.funcs[f]? = some fn) (hb : fn.body = some c) (hc : compC P ⟨fn.ntmps, true⟩ c = some m) (hr : compR P fn.results.toList = some rs)
  (h : MW P ⟨fn.ntmps, true⟩ m (startP cs ro) (fun e s => (e = .normal ∨ e = .ret) ∧ GivesP rs cs' res s)) : ConP P f cs cs' ro res := by
 intro w D g cur ty vs hD hg hnd hcur hcs h1 hargs
 let E1 : Env := { w := w, D := D, S := fun _ => Emp, loc := upd (fun _ => none) 0 (some (g, 0)), objs := upd (fun _ => none) 0 (some (.box (cs.map (AV.val none)))) }
 have live0 : ∀ q, live (E1.objs q) = true → q = 0 := by
  intro q hq
  apply Decidable.byContradiction
  intro hne
  have hq : live (upd (fun _ => none) 0 (some (Root.box (cs.map (AV.val none)))) q) = true := hq
  rw [upd_ne hne] at hq; cases hq
 have own0 : ∀ p, E1.own 0 p → p = g := by
  rintro p (hp | ⟨z, hp⟩)
  ·exact hp.elim
  ·have hp : upd (fun _ => none) 0 (some (g, 0)) 0 = some (p, z) := hp
   rw [upd_same] at hp
   simp only [Option.some.injEq, Prod.mk.injEq] at hp
   exact hp.1.symm
 have g1 : Good ⟨w, fun q => q = g, .pointer (some ⟨g, 0, none⟩)⟩ D E1 := by
  refine ⟨Stays.refl ⟨w, fun q => q = g, .pointer (some ⟨g, 0, none⟩)⟩, fun q h => ⟨hD.lt q h, .inl h⟩, fun q h => h, ?_, ?_, fun q _ p z _ hp => hp, ?_, hD.tabs⟩
  ·intro q o ho
   have ho : upd (fun _ => none) 0 (some (Root.box (cs.map (AV.val none)))) q = some o := ho
   by_cases e : q = 0
   ·subst e
    rw [upd_same] at ho
    simp only [Option.some.injEq] at ho; subst ho
    exact ⟨g, cur, ty, by show upd (fun _ => none) 0 (some (g, 0)) 0 = _; rw [upd_same], hcur, vals_reps (E := E1) hcs (fun _ h => h), h1⟩
   ·rw [upd_ne e] at ho; cases ho
  ·intro q hl p hp
   obtain rfl := live0 q hl
   rw [own0 p hp]
   exact ⟨.inr rfl, hg, hnd⟩
  ·intro q q' hne hl hl'
   exact absurd ((live0 q hl).trans (live0 q' hl').symm) hne
 refine calls_of_wp hf hb (wp_mono (h c hc ⟨w, fun q => q = g, .pointer (some ⟨g, 0, none⟩)⟩ D _ w ?_) ?_)
 ·refine ⟨E1, ⟨g1, rfl, rfl, ?_, rfl, ?_, ?_, fun _ _ _ _ h => by cases h⟩, fun q hq => ?_⟩
  ·simp; omega
  ·intro t
   have hl := hargs.length
   cases t with
   | zero =>
    have : ((.pointer (some ⟨g, 0, none⟩) :: vs).toArray ++ Array.replicate (fn.ntmps - (Value.pointer (some ⟨g, 0, none⟩) :: vs).toArray.size) undef).getD 0 undef = .pointer (some ⟨g, 0, none⟩) := by simp [Array.getD]
    simp only [startP]
    rw [this]
    refine .ptrRow ?_ ?_ ?_
    ·show upd (fun _ => none) 0 (some (Root.box (cs.map (AV.val none)))) 0 ≠ none; rw [upd_same]; simp
    ·intro own sz L ho
     have ho : upd (fun _ => none) 0 (some (Root.box (cs.map (AV.val none)))) 0 = some (Root.row own sz L) := ho
     rw [upd_same] at ho; cases ho
    ·intro cs2 _
     exact ⟨rfl, g, by show upd (fun _ => none) 0 (some (g, 0)) 0 = _; rw [upd_same], rfl⟩
   | succ t =>
    simp only [startP, Array.getD_eq_getD_getElem?]
    rw [Array.getElem?_append]
    split
    ·rename_i v hv
     obtain ⟨y, hy, hry⟩ := hargs.get hv
     have ht : t + 1 < (Value.pointer (some ⟨g, 0, none⟩) :: vs).toArray.size := by
      have := (List.getElem?_eq_some_iff.1 hy).1
      simpa using this
     rw [if_pos ht]
     have : (Value.pointer (some ⟨g, 0, none⟩) :: vs).toArray[t + 1]? = some y := by simpa using hy
     rw [this]
     exact .val0 hry
    ·rename_i hv
     have hge : ro.length ≤ t := List.getElem?_eq_none_iff.1 hv
     have hu : (AvRep E1 AV.undef undef) := AvRep.tup .nil
     rw [if_neg (by simp; omega)]
     rw [Array.getElem?_replicate]
     split <;> exact hu
  ·intro _
   simp [Array.getD]
  ·have hq : 64 ≤ q := hq
   have hq0 : q ≠ 0 := by omega
   show upd (fun _ => none) 0 (some (Root.box (cs.map (AV.val none)))) q = none
   rw [upd_ne hq0]
 ·intro e a' w' h
  cases e <;> simp only [Lift] at h <;> try exact h.elim
  all_goals
   obtain ⟨s, ⟨he, cs2, rl, l, q1, q2, q3, q4, rfl, q6, q7⟩, E, hE, _⟩ := h
   first | (rcases he with he | he <;> cases he; done) | skip
  all_goals
   obtain ⟨xs, k1, k2⟩ := res_run hE hr q1
   have ew := hE.ew
   have good := hE.good
   have hb0 : E.objs 0 = some (.box (cs'.map (AV.val none))) := by rw [hE.eo]; exact q7
   have hl0 : live (E.objs 0) = true := by rw [hb0]; rfl
   have ht0 := hE.tmps 0
   rw [hE.fix rfl, q6] at ht0
   have hloc : E.loc 0 = some (g, 0) := by
    cases ht0 with
    | ptrRow _ _ h' =>
     obtain ⟨_, g3, k3, k4⟩ := h' _ hb0
     simp only [Value.pointer.injEq, Option.some.injEq, Addr.mk.injEq, and_true] at k4
     rw [k4]; exact k3
   obtain ⟨g2, cur2, ty2, b1, b2, b3, b4⟩ := good.roots 0 _ hb0
   have hgg : g2 = g := by rw [hloc] at b1; simp only [Option.some.injEq, Prod.mk.injEq, and_true] at b1; exact b1.symm
   subst hgg
   have hog : E.own 0 g2 := .inr ⟨0, hloc⟩
   have hb := good.below
   rw [ew] at b2 hb
   have hrep := reps_vals b3
   rw [ew] at hrep
   refine ⟨hE.defers, packV xs, ?_, packV xs, E.owns l, E.D, cur2, ty2, rfl, mkRV_rep (take2L_rep hE k2 q2 q3), ?_, good.d0, ?_, b2, hrep, b4, ⟨hb.os, hb.tape, hb.output, hb.size, hb.block, hb.held⟩⟩
   ·have e1 : results fn a'.tmps = (do
     let vs ← fn.results.mapM (resF a'.tmps)
     pure (if h : vs.size = 1 then vs[0] else .tuple vs)) := by
     unfold results
     rfl
    rw [e1, Array.mapM_eq_mapM_toList]
    simp only [Sem.run_bind, Sem.run_map, Sem.run_pure]
    rw [k1]
    simp only [Result.andThen_ok]
    congr 1
    match xs with
    | [] => rfl
    | [x] => rfl
    | x :: y :: xs => simp [packV]
   ·rintro q ⟨r, r1, r2, r3⟩
    obtain ⟨p1, p2, p3⟩ := good.ownIn r r2 q r3
    refine ⟨?_, by rw [← ew]; exact p2, p3⟩
    rcases p1 with p1 | p1
    ·exact p1
    ·exfalso
     have hq : q = g2 := p1
     subst hq
     have hne : r ≠ 0 := by rintro rfl; rw [List.contains_iff_mem.2 r1] at q4; cases q4
     exact good.apart r 0 hne r2 hl0 q r3 hog
   ·intro q hq
    obtain ⟨p1, p2⟩ := good.dIn q hq
    refine ⟨by rw [← ew]; exact p1, ?_⟩
    rcases p2 with p2 | p2 | p2
    ·exact .inl p2
    ·exact .inr p2
    ·exfalso
     have hqg : q = g2 := p2
     subst hqg
     exact (good.ownIn 0 hl0 q hog).2.2 hq
end
end Go.Ab
