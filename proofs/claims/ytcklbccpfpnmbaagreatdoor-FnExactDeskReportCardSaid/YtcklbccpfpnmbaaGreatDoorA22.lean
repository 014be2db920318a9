import Derived.Test.YtcklbccpfpnmbaaGreatDoorA21
set_option linter.unusedVariables false
set_option linter.unusedSimpArgs false
namespace Go.Ab
open Go.RowKit
inductive RS where
 | tmp (t : Nat)
 | cell (m : MO)
def a7j (P : Program) : List ResultVar → Option (List RS)
 | [] => some []
 | .tmp t :: l => (a7j P l).map (.tmp t :: ·)
 | .cell a ty :: l => match a9X P ty (.tmp a), a7j P l with
  | some m, some l => some (.cell m :: l)
  | _, _ => none
def a3u (s : St) : List RS → Option (List AV)
 | [] => some []
 | .tmp t :: l => (a3u s l).map (s.tmps t :: ·)
 | .cell m :: l => match ev s m, a3u s l with
  | some c, some l => some (c :: l)
  | _, _ => none
def b7J (s : St) (c : AV) : Option (R1 × List Nat) := match snap false s 8 c with
 | some v => some (.val v, [])
 | none => match c with
  | .sl r off len => match s.objs r with
   | some (.row own sz L) => some (.row own sz ((L.drop off).take len), [r])
   | _ => none
  | _ => none
def b1a (s : St) : List AV → Option (List R1 × List Nat)
 | [] => some ([], [])
 | c :: cs => match b7J s c, b1a s cs with
  | some (r, l), some (rs, ls) => some (r :: rs, l ++ ls)
  | _, _ => none
def b5N (s : St) (c : AV) : Option (R2 × List Nat) := match b7J s c with
 | some (r, l) => some (.one r, l)
 | none => match c with
  | .agg cs => match b1a s cs with
   | some (rs, l) => some (.agg rs, l)
   | none => none
  | _ => none
def a4J (s : St) : List AV → Option (List R2 × List Nat)
 | [] => some ([], [])
 | c :: cs => match b5N s c, a4J s cs with
  | some (r, l), some (rs, ls) => some (r :: rs, l ++ ls)
  | _, _ => none
def b8S : List R2 → RV
 | [r] => .one r
 | rs => .tup rs
def b9U (s : St) (cs : List AV) (res : RV) : Prop :=
 (∃ rs l, a4J s cs = some (rs, l) ∧ l.Nodup ∧ res = b8S rs) ∨ (∃ vs, trav (snap true s 8) cs = some vs ∧ res = b8S (vs.map R2.v))
def start (args : List V) : St := ⟨fun t => match args[t]? with
 | some v => .val none v
 | none => .undef, fun _ => none, 0, none⟩
section
variable {P : Program} {N : Fr} {w0 : Base} {D0 : q9} {E : Env} {st : St} {a : Act} {w : World}
def Env.owns (E : Env) (l : List Nat) (g : Nat) : Prop := ∃ r, r ∈ l ∧ live (E.objs r) = true ∧ E.own r g
theorem b3C (hg : D3 w0 D0 E) {l l' : List Nat} (hn : (l ++ l').Nodup) : ∀ q, E.owns l q → ¬ E.owns l' q := by
 rintro q ⟨r, h1, h2, h3⟩ ⟨r', k1, k2, k3⟩
 have hne : r ≠ r' := (List.nodup_append.1 hn).2.2 r h1 r' k1
 exact hg.apart r r' hne h2 k2 q h3 k3
theorem R1Rep.wider {w : World} {D : q9} {r : R1} {x : Value} {S S' : q9} (h : R1Rep w D r x S) (hs : ∀ q, S q → S' q) : R1Rep w D r x S' := by
 cases h with
 | val h => exact .val h
 | nil => exact .nil
 | row hS hT hg hb hu h hc hm hz => exact .row (hs _ hS) (fun q h => hs q (hT q h)) hg hb hu h hc hm hz
theorem b5p (hE : SimE N w0 D0 E st a w) {c : AV} {x : Value} {r : R1} {l : List Nat} (h : AvRep E c x) (ht : b7J st c = some (r, l)) : R1Rep w E.D r x (E.owns l) := by
 have ew := hE.ew
 have eo := hE.eo
 unfold b7J at ht
 split at ht
 ·rename_i v hs
  simp only [Option.some.injEq, Prod.mk.injEq] at ht
  obtain ⟨rfl, rfl⟩ := ht
  refine .val ((a6k hE 8 c v x h hs).keep ?_ (fun h => by cases h))
  rintro g (hg | ⟨hg, _⟩)
  ·exact ⟨hg, rfl⟩
  ·cases hg
 ·split at ht
  ·rename_i r off len _
   split at ht
   ·rename_i own sz L ho
    simp only [Option.some.injEq, Prod.mk.injEq] at ht
    obtain ⟨rfl, rfl⟩ := ht
    have ho' : E.objs r = some (.row own sz L) := by rw [eo]; exact ho
    obtain ⟨ad, c, vs, rfl, hlc, hm, hvl, hrv, hu, hle, hpl⟩ := W9 hE.good h ho'
    have hlen : ((L.drop off).take len).length = len := by simp; omega
    have hlv : live (E.objs r) = true := L9 ho'
    rcases hpl with ⟨rfl, rfl⟩ | ⟨g, o, cur, e, hl, rfl, hh, hs, hcells⟩
    ·have hl0 : len = 0 := by omega
     subst hl0
     simpa using R1Rep.nil (w := w) (D := E.D)
    ·have := R1Rep.row (w := w) (D := E.D) (own := own) (sz := sz) (L := (L.drop off).take len) (g := g) (o := o + off * sz) (c := c) (vs := vs) (S := E.owns [r]) (T := E.S r)
      ⟨r, by simp, hlv, .inr ⟨o, hl⟩⟩ (fun q hq => ⟨r, by simp, hlv, .inl hq⟩) (hE.good.ownS r hlv g o hl) (by rw [← ew]; exact ⟨cur, e, hh, hcells⟩) hu (by rw [← ew]; exact hrv)
      (by rw [hlen]; exact hlc) hm ⟨cur, e, by rw [← ew]; exact hh, fun _ => by rw [Nat.add_mul] at hs; omega⟩
     rw [hlen] at this
     exact this
   ·cases ht
  ·cases ht
theorem b3a (hE : SimE N w0 D0 E st a w) : ∀ {cs : List AV} {xs : List Value} {rs : List R1} {l : List Nat}, AvReps E cs xs → b1a st cs = some (rs, l) → l.Nodup → R1Reps w E.D rs xs (E.owns l)
 | [], _, rs, l, .nil, ht, hn => by
  simp only [b1a, Option.some.injEq, Prod.mk.injEq] at ht
  obtain ⟨rfl, rfl⟩ := ht
  exact .nil
 | c :: cs, _, rs, l, .cons h hs, ht, hn => by
  simp only [b1a] at ht
  split at ht
  ·rename_i h1 h2
   simp only [Option.some.injEq, Prod.mk.injEq] at ht
   obtain ⟨rfl, rfl⟩ := ht
   exact .cons (b5p hE h h1) (b3a hE hs h2 (List.nodup_append.1 hn).2.1) (b3C hE.good hn) (fun q ⟨r, k1, k2⟩ => ⟨r, by simp [k1], k2⟩) (fun q ⟨r, k1, k2⟩ => ⟨r, by simp [k1], k2⟩)
  ·cases ht
theorem b5k (hE : SimE N w0 D0 E st a w) {c : AV} {x : Value} {r : R2} {l : List Nat} (h : AvRep E c x) (ht : b5N st c = some (r, l)) (hn : l.Nodup) : R2Rep w E.D r x (E.owns l) := by
 unfold b5N at ht
 split at ht
 ·rename_i h1
  simp only [Option.some.injEq, Prod.mk.injEq] at ht
  obtain ⟨rfl, rfl⟩ := ht
  exact .one (b5p hE h h1)
 ·split at ht
  ·split at ht
   ·rename_i h1
    simp only [Option.some.injEq, Prod.mk.injEq] at ht
    obtain ⟨rfl, rfl⟩ := ht
    cases h with
    | agg k1 h => exact .agg k1 (b3a hE h h1 hn)
   ·cases ht
  ·cases ht
theorem b3q (hE : SimE N w0 D0 E st a w) : ∀ {cs : List AV} {xs : List Value} {rs : List R2} {l : List Nat}, AvReps E cs xs → a4J st cs = some (rs, l) → l.Nodup → R2Reps w E.D rs xs (E.owns l)
 | [], _, rs, l, .nil, ht, hn => by
  simp only [a4J, Option.some.injEq, Prod.mk.injEq] at ht
  obtain ⟨rfl, rfl⟩ := ht
  exact .nil
 | c :: cs, _, rs, l, .cons h hs, ht, hn => by
  simp only [a4J] at ht
  split at ht
  ·rename_i h1 h2
   simp only [Option.some.injEq, Prod.mk.injEq] at ht
   obtain ⟨rfl, rfl⟩ := ht
   exact .cons (b5k hE h h1 (List.nodup_append.1 hn).1) (b3q hE hs h2 (List.nodup_append.1 hn).2.1) (b3C hE.good hn) (fun q ⟨r, k1, k2⟩ => ⟨r, by simp [k1], k2⟩) (fun q ⟨r, k1, k2⟩ => ⟨r, by simp [k1], k2⟩)
  ·cases ht
def b1v : List Value → Value
 | [v] => v
 | vs => .tuple vs.toArray
theorem b6Z {D : q9} {rs : List R2} {xs : List Value} {S : q9} (h : R2Reps w D rs xs S) : RvRep w D (b8S rs) (b1v xs) S := by
 cases h with
 | nil => exact .tup .nil
 | cons h hs hd h1 h2 =>
  cases hs with
  | nil =>
   refine .one ?_
   cases h with
   | one h => exact .one (h.wider h1)
   | agg k1 h => 
    refine .agg k1 ?_
    cases h with
    | nil => exact .nil
    | cons q1 q2 q3 q4 q5 => exact .cons q1 q2 q3 (fun q hq => h1 q (q4 q hq)) (fun q hq => h1 q (q5 q hq))
  | cons g gs gd g1 g2 => exact .tup (.cons h (.cons g gs gd g1 g2) hd h1 h2)
theorem b9p {D : q9} : ∀ {vs : List V} {xs : List Value}, Reps w D false vs xs Emp → R2Reps w D (vs.map R2.v) xs Emp
 | [], _, .nil => .nil
 | v :: vs, _, .cons h1 h2 hd s1 s2 => by
  refine .cons (S1 := Emp) (S2 := Emp) (.one (.val ?_)) (b9p (h2.wide s2)) (fun _ h => h.elim) (fun _ h => h) (fun _ h => h)
  exact h1.wide s1
theorem b8H (hE : SimE N w0 D0 E st a w) {cs : List AV} {xs : List Value} {res : RV} (h : AvReps E cs xs) (hg : b9U st cs res) (hh : ∀ g, ¬ w0.h g) : c8g w0.w D0 res (.returned (b1v xs)) w := by
 have ew := hE.ew
 have good := hE.good
 have nw : ∀ g, w0.new g → w0.w.heap.size ≤ g := fun g h => h.resolve_right (hh g)
 rcases hg with ⟨rs, l, ht, hn, rfl⟩ | ⟨vs, ht, rfl⟩
 ·refine ⟨_, E.owns l, E.D, rfl, b6Z (b3q hE h ht hn), ?_, good.d0, ?_, by rw [← ew]; exact a5Q good.below hh⟩
  ·rintro g ⟨r, _, h1, h2⟩
   rw [← ew]
   exact ⟨nw g (good.ownIn r h1 g h2).1, (good.ownIn r h1 g h2).2⟩
  ·intro g hg; rw [← ew]; exact ⟨(good.dIn g hg).1, (good.dIn g hg).2.imp (fun h => h) (nw g)⟩
 ·refine ⟨_, Emp, a8B E true, rfl, b6Z (b9p (a3q hE h ht)), fun g h => h.elim, fun g h => .inl (good.d0 g h), ?_, by rw [← ew]; exact a5Q good.below hh⟩
  rintro g (hg | ⟨_, hg⟩)
  ·rw [← ew]; exact ⟨(good.dIn g hg).1, (good.dIn g hg).2.imp (fun h => h) (nw g)⟩
  ·obtain ⟨r, h1, h2⟩ := hg
   obtain ⟨q1, q2, _⟩ := good.ownIn r h1 g h2
   rw [← ew]
   exact ⟨q2, .inr (nw g q1)⟩
def c2h (tmps : Array Value) : ResultVar → Sem Value
 | .tmp t => pure (tmps.getD t undef)
 | .cell x t => do loadVar t (← asAddr (tmps.getD x undef))
theorem b2q (hE : SimE N w0 D0 E st a w) : ∀ {rv : List ResultVar} {rs : List RS} {cs : List AV}, a7j P rv = some rs → a3u st rs = some cs →
  ∃ xs, (rv.mapM (c2h a.tmps)).run P w = .ok xs w ∧ AvReps E cs xs
 | [], rs, cs, hc, hr => by
  simp only [a7j, Option.some.injEq] at hc; subst hc
  simp only [a3u, Option.some.injEq] at hr; subst hr
  exact ⟨[], by simp, .nil⟩
 | .tmp t :: rv, rs, cs, hc, hr => by
  simp only [a7j] at hc
  obtain ⟨rs', h1, rfl⟩ := Option.map_eq_some_iff.1 hc
  simp only [a3u] at hr
  obtain ⟨cs', h2, rfl⟩ := Option.map_eq_some_iff.1 hr
  obtain ⟨xs, h3, h4⟩ := b2q hE h1 h2
  refine ⟨a.tmps.getD t undef :: xs, ?_, .cons (hE.tmps t) h4⟩
  simp only [List.mapM_cons, c2h, Sem.run_bind, Sem.run_pure, Result.andThen_ok, h3]
 | .cell x t :: rv, rs, cs, hc, hr => by
  simp only [a7j] at hc
  split at hc
  ·rename_i m rs' hm h1
   simp only [Option.some.injEq] at hc; subst hc
   simp only [a3u] at hr
   split at hr
   ·rename_i c cs' he h2
    simp only [Option.some.injEq] at hr; subst hr
    obtain ⟨xs, h3, h4⟩ := b2q hE h1 h2
    obtain ⟨z, h5, h6⟩ := c5p (P := P) hE hm he
    refine ⟨z :: xs, ?_, .cons h6 h4⟩
    have h7 : (do loadVar t (← asAddr (a.tmps.getD x undef)) : Sem Value).run P w = .ok z w := by
     simp only [Instr.loadAt, Act.eval] at h5
     generalize a.tmps.getD x undef = y at h5 ⊢
     cases y with
     | pointer p => cases p with
      | none => simp [Instr.sureAddr] at h5
      | some p => exact h5
     | _ => simp [Instr.sureAddr] at h5
    simp only [List.mapM_cons, c2h, Sem.run_bind, Sem.run_pure, Result.andThen_ok, h3] at h7 ⊢
    rw [h7]
    simp only [Result.andThen_ok, h3]
   ·cases hr
  ·cases hc
theorem b7K {f : FuncId} {fn : Func} {c : Code} {m : MC} {rs : List RS} {args : List V} {res : RV} (hf : P.funcs[f]? = some fn) (hb : fn.body = some c) (hc : a2w P ⟨fn.ntmps, false⟩ c = some m) (hr : a7j P fn.results.toList = some rs)
  (h : MW P ⟨fn.ntmps, false⟩ m (start args) (fun e s => (e = .normal ∨ e = .ret) ∧ ∃ cs, a3u s rs = some cs ∧ b9U s cs res)) : Con P f args res := by
 intro w D vs hD hargs
 refine calls_of_wp hf hb (wp_mono (h c hc ⟨w, Emp, undef⟩ D _ w ?_) ?_)
 ·refine ⟨⟨w, D, fun _ => Emp, fun _ => none, fun _ => none⟩, ⟨⟨Stays.refl _, fun g h => ⟨hD.lt g h, .inl h⟩, fun g h => h, fun r o h => (by cases h), fun r h => (by simp [live] at h), fun r h => (by simp [live] at h), fun r r' _ h => (by simp [live] at h), hD.tabs⟩, rfl, rfl, ?_, rfl, ?_, fun h => by (cases h), fun _ _ _ _ h => by (cases h)⟩, fun r _ => rfl⟩
  ·simp; omega
  ·intro t
   have hl := hargs.length
   simp only [start, Array.getD_eq_getD_getElem?]
   rw [Array.getElem?_append]
   split
   ·rename_i v hv
    obtain ⟨y, hy, hry⟩ := hargs.get hv
    have ht : t < vs.toArray.size := by
     have := (List.getElem?_eq_some_iff.1 hy).1
     simpa using this
    rw [if_pos ht]
    have : vs.toArray[t]? = some y := by simpa using hy
    rw [this]
    exact .val0 hry
   ·rename_i hv
    have hge : args.length ≤ t := List.getElem?_eq_none_iff.1 hv
    have hu : (AvRep ⟨w, D, fun _ => Emp, fun _ => none, fun _ => none⟩ AV.undef undef) := AvRep.tup .nil
    rw [if_neg (by simp; omega)]
    rw [Array.getElem?_replicate]
    split <;> exact hu
 ·intro e a' w' h
  cases e <;> simp only [b4Y] at h <;> try exact h.elim
  all_goals
   obtain ⟨s, ⟨he, cs, h1, h2⟩, E, hE, _⟩ := h
   first | (rcases he with he | he <;> cases he; done) | skip
  all_goals
   obtain ⟨xs, h3, h4⟩ := b2q hE hr h1
   have hp := b8H hE h4 h2 (fun g h => h)
   refine ⟨hE.defers, b1v xs, ?_, hp⟩
   have e1 : results fn a'.tmps = (do
    let vs ← fn.results.mapM (c2h a'.tmps)
    pure (if h : vs.size = 1 then vs[0] else .tuple vs)) := by
    unfold results
    rfl
   rw [e1, Array.mapM_eq_mapM_toList]
   simp only [Sem.run_bind, Sem.run_map, Sem.run_pure]
   rw [h3]
   simp only [Result.andThen_ok]
   congr 1
   match xs with
   | [] => rfl
   | [x] => rfl
   | x :: y :: xs => simp [b1v]
def a7N (r : R2) (ro : List V) : St := ⟨fun t => match t with
 | 0 => (pl2 0 (fun _ => none) r).1
 | t + 1 => match ro[t]? with
  | some v => .val none v
  | none => .undef, (pl2 0 (fun _ => none) r).2, 64, none⟩
def c2S (rs : List RS) (r' : R2) (rv : V) (s : St) : Prop := ∃ cs l, a3u s rs = some cs ∧ ((∃ cv, cs = [cv] ∧ snap false s 8 cv = some rv ∧ rv ≠ .agg []) ∨ (cs = [] ∧ rv = .agg [])) ∧ b5N s (s.tmps 0) = some (r', l) ∧ l.Nodup
theorem b6u {f : FuncId} {fn : Func} {c : Code} {m : MC} {rs : List RS} {r r' : R2} {ro : List V} {rv : V} (hf : P.funcs[f]? = some fn) (hb : fn.body = some c) (hc : a2w P ⟨fn.ntmps, true⟩ c = some m) (hr : a7j P fn.results.toList = some rs)
  (hfit : r.wide 64 = true) (hcl : r'.clean = true) (hp : rv.plain = true)
  (h : MW P ⟨fn.ntmps, true⟩ m (a7N r ro) (fun e s => (e = .normal ∨ e = .ret) ∧ c2S rs r' rv s)) : a3n P f r r' ro rv := by
 intro w D S x vs hD hS hx hargs
 have g0 : D3 ⟨w, S, x⟩ D ⟨w, D, fun _ => Emp, fun _ => none, fun _ => none⟩ :=
  ⟨Stays.refl _, fun g h => ⟨hD.lt g h, .inl h⟩, fun g h => h, fun r o h => (by cases h), fun r h => (by simp [live] at h), fun r h => (by simp [live] at h), fun r r' _ h => (by simp [live] at h), hD.tabs⟩
 have hsp : a1Y ⟨w, S, x⟩ ⟨w, D, fun _ => Emp, fun _ => none, fun _ => none⟩ S := fun g hg => ⟨⟨.inr hg, fun r h => (by simp [live] at h)⟩, hS g hg⟩
 obtain ⟨E1, le1, g1, w1, d1, o1, r1, _⟩ := b3h (n := 64) (by omega) g0 (id := 0) hfit (fun _ _ => rfl) hx hsp
 refine calls_of_wp hf hb (wp_mono (h c hc ⟨w, S, x⟩ D _ w ?_) ?_)
 ·refine ⟨E1, ⟨g1, w1, o1, ?_, rfl, ?_, ?_, fun _ _ _ _ h => by cases h⟩, fun q hq => ?_⟩
  ·simp; omega
  ·intro t
   have hl := hargs.length
   cases t with
   | zero =>
    have : ((x :: vs).toArray ++ Array.replicate (fn.ntmps - (x :: vs).toArray.size) undef).getD 0 undef = x := by simp [Array.getD]
    simp only [a7N]
    rw [this]
    exact r1
   | succ t =>
    simp only [a7N, Array.getD_eq_getD_getElem?]
    rw [Array.getElem?_append]
    split
    ·rename_i v hv
     obtain ⟨y, hy, hry⟩ := hargs.get hv
     have ht : t + 1 < (x :: vs).toArray.size := by
      have := (List.getElem?_eq_some_iff.1 hy).1
      simpa using this
     rw [if_pos ht]
     have : (x :: vs).toArray[t + 1]? = some y := by simpa using hy
     rw [this]
     refine .val0 ?_
     rw [w1, d1]
     exact hry
    ·rename_i hv
     have hge : ro.length ≤ t := List.getElem?_eq_none_iff.1 hv
     have hu : (AvRep E1 AV.undef undef) := AvRep.tup .nil
     rw [if_neg (by simp; omega)]
     rw [Array.getElem?_replicate]
     split <;> exact hu
  ·intro _
   simp [Array.getD]
  ·exact a7v (n := 64) (by omega) hfit (.inr (by have : (a7N r ro).next = 64 := rfl; omega))
 ·intro e a' w' h
  cases e <;> simp only [b4Y] at h <;> try exact h.elim
  all_goals
   obtain ⟨s, ⟨he, cs, l, h1, h2, h3, h4⟩, E, hE, _⟩ := h
   first | (rcases he with he | he <;> cases he; done) | skip
  all_goals
   obtain ⟨xs, k1, k2⟩ := b2q hE hr h1
   have ew := hE.ew
   have hy : c4b w' D rv (b1v xs) := by
    rcases h2 with ⟨cv, rfl, h2, hne⟩ | ⟨rfl, rfl⟩
    ·obtain ⟨y, rfl⟩ : ∃ y, xs = [y] := by
      have := k2.length
      match xs with
      | [y] => exact ⟨y, rfl⟩
      | [] => simp at this
      | _ :: _ :: _ => simp at this
     have hcv : AvRep E cv y := by cases k2 with | cons h _ => exact h
     rw [(b6j hne).1]
     exact a6B (a6k hE 8 _ _ _ hcv h2) hp
    ·cases k2
     rfl
   have ht0 := hE.tmps 0
   rw [hE.fix rfl] at ht0
   have hx' := b5k hE ht0 h3 h4
   refine ⟨hE.defers, b1v xs, ?_, b1v xs, E.owns l, rfl, hy, hx'.cleanD hcl, ?_, by rw [← ew]; exact hE.good.below⟩
   ·have e1 : results fn a'.tmps = (do
     let vs ← fn.results.mapM (c2h a'.tmps)
     pure (if h : vs.size = 1 then vs[0] else .tuple vs)) := by
     unfold results
     rfl
    rw [e1, Array.mapM_eq_mapM_toList]
    simp only [Sem.run_bind, Sem.run_map, Sem.run_pure]
    rw [k1]
    simp only [Result.andThen_ok]
    congr 1
    match xs with
    | [] => rfl
    | [x] => rfl
    | x :: y :: xs => simp [b1v]
   ·rintro g ⟨q, _, q1, q2⟩
    obtain ⟨q3, q4, q5⟩ := hE.good.ownIn q q1 g q2
    refine ⟨?_, by rw [← ew]; exact q4, fun hd => q5 (hE.good.d0 g hd)⟩
    rcases q3 with q3 | q3
    ·exact .inr q3
    ·exact .inl q3
end
end Go.Ab
