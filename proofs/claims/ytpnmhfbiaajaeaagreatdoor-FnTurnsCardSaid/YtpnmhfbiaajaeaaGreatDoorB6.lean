import Derived.Test.YtpnmhfbiaajaeaaGreatDoorB4
set_option linter.unusedVariables false
set_option linter.unusedSimpArgs false
namespace Go.Ab
open Go.RowKit
def PostP (w : World) (D : BSet) (g : Nat) (n : Nat) (cs' : List V) (res : RV) (e : Ending) (w' : World) : Prop :=
 ∃ v S D' cur' ty', e = .returned v ∧ RvRep w' D' res v S ∧ (∀ q, S q → w.heap.size ≤ q ∧ q < w'.heap.size ∧ ¬ D' q) ∧ (∀ q, D q → D' q) ∧ (∀ q, D' q → q < w'.heap.size ∧ (D q ∨ w.heap.size ≤ q)) ∧
  w'.heap[g]? = some (.cells cur' ty' (0, 0)) ∧ Reps w' D' false cs' cur'.toList Emp ∧ (∀ c ∈ cur'.toList, c.oneCell' = true) ∧ Stays ⟨w, fun q => q = g, undef⟩ w'
def ConP (P : Program) (f : FuncId) (cs cs' : List V) (ro : List V) (res : RV) : Prop :=
 ∀ (w : World) (D : BSet) (g : Nat) (cur : Array Value) (ty : TypeId) (vs : List Value), DOk w D → g < w.heap.size → ¬ D g → w.heap[g]? = some (.cells cur ty (0, 0)) → Reps w D false cs cur.toList Emp → (∀ c ∈ cur.toList, c.oneCell' = true) →
  Reps w D false ro vs Emp → Calls P f (.pointer (some ⟨g, 0, none⟩) :: vs).toArray w (PostP w D g cur.size cs' res)
def ConN (P : Program) (f : FuncId) (ro : List V) (cs : List V) : Prop :=
 ∀ (w : World) (D : BSet) (vs : List Value), DOk w D → Reps w D false ro vs Emp → Calls P f vs.toArray w fun e w' =>
  ∃ g cur ty, e = .returned (.pointer (some ⟨g, 0, none⟩)) ∧ w.heap.size ≤ g ∧ w'.heap[g]? = some (.cells cur ty (0, 0)) ∧ Reps w' D false cs cur.toList Emp ∧ (∀ c ∈ cur.toList, c.oneCell' = true) ∧ Below w.heap.size w w'
def killO (ks : List Nat) (o : Objs) : Objs := fun q => if ks.contains q = true then (o q).map (fun _ => Root.dead) else o q
def onlyS (s : St) (ks : List Nat) : St := { s with objs := fun q => if ks.contains q = true then s.objs q else (s.objs q).map (fun _ => Root.dead), lk := none }
theorem dies_map (o : Option Root) : o.map (fun _ => Root.dead) = o ∨ (o.map (fun _ => Root.dead) = some .dead ∧ live o = true) := by
 cases o with
 | none => exact .inl rfl
 | some o => cases o <;> first | exact .inl rfl | exact .inr ⟨rfl, rfl⟩
theorem dies_killO (ks : List Nat) (o : Objs) : Dies o (killO ks o) := by
 intro q
 unfold killO
 split
 ·exact dies_map _
 ·exact .inl rfl
section
variable {P : Program} {N : Fr} {w0 : Base} {D0 : BSet} {E : Env} {st : St} {a : Act} {w : World}
theorem lend_kill (hE : SimE N w0 D0 E st a w) {ks : List Nat} {cs : List AV} {xs : List Value} {Vs : List V} (h : AvReps E cs xs) (ht : trav (snap true (onlyS st ks) 8) cs = some Vs) : Reps w (E.kill (killO ks st.objs)).D false Vs xs Emp := by
 have eo := hE.eo
 have ew := hE.ew
 have hd : Dies E.objs (onlyS st ks).objs := by
  intro q
  rw [eo]
  show (if ks.contains q = true then st.objs q else (st.objs q).map (fun _ => Root.dead)) = _ ∨ _
  split
  ·exact .inl rfl
  ·rename_i hq
   rcases dies_map (st.objs q) with h | h
   ·exact .inl h
   ·refine .inr ⟨?_, h.2⟩
    show (if ks.contains q = true then st.objs q else (st.objs q).map (fun _ => Root.dead)) = _
    rw [if_neg hq]; exact h.1
 obtain ⟨le, g⟩ := stx_ok hE.good hd (w' := E.w) (S := Emp) (D' := E.D) (x := w0.x) (Stays.refl ⟨E.w, Emp, w0.x⟩) (fun _ h => h.elim) (fun _ h => h) (fun g h => ⟨(hE.good.dIn g h).1, .inl h⟩)
 have hE2 : SimE N w0 D0 (E.stx (onlyS st ks).objs E.w E.D) (onlyS st ks) a w := ⟨g, hE.ew, rfl, hE.size, hE.defers, fun t => (hE.tmps t).le le, hE.fix, fun _ _ _ _ h => by cases h⟩
 refine (trav_rep (fun c v x hx hs => snap_rep hE2 8 c v x hx hs) (AvReps.le le h) ht).keep ?_ (fun h => by cases h)
 rintro q (hq | ⟨_, r, hl, ho⟩)
 ·exact ⟨.inl hq, rfl⟩
 ·refine ⟨.inr ⟨r, ?_, ?_, ho⟩, rfl⟩
  ·obtain ⟨e, l⟩ := hd.live hl; exact l
  ·have hl : live ((onlyS st ks).objs r) = true := hl
   have hc : ks.contains r = true := by
    cases hk : ks.contains r
    ·rw [show (onlyS st ks).objs r = (st.objs r).map (fun _ => Root.dead) from if_neg (by rw [hk]; decide)] at hl
     cases hs : st.objs r <;> rw [hs] at hl <;> cases hl
    ·rfl
   rw [show (onlyS st ks).objs r = st.objs r from if_pos hc] at hl
   rw [show killO ks st.objs r = (st.objs r).map (fun _ => Root.dead) from if_pos hc]
   cases hs : st.objs r with
   | none => rw [hs] at hl; cases hl
   | some o => rfl
theorem reps_vals {E : Env} : ∀ {cs : List V} {xs : List Value}, AvReps E (cs.map (AV.val none)) xs → Reps E.w E.D false cs xs Emp
 | [], _, .nil => .nil
 | c :: cs, _, .cons h hs => by
  cases h with
  | val0 h => exact .cons h (reps_vals hs) (fun _ h => h.elim) (fun _ h => h) (fun _ h => h)
theorem vals_reps {E : Env} : ∀ {cs : List V} {xs : List Value} {S : BSet}, Reps E.w E.D false cs xs S → (∀ g, ¬ S g) → AvReps E (cs.map (AV.val none)) xs
 | [], _, _, .nil, _ => .nil
 | c :: cs, _, _, .cons h hs hd h1 h2, hS => .cons (.val0 (h.wide (fun g hg => (hS g (h1 g hg)).elim))) (vals_reps hs (fun g hg => hS g (h2 g hg)))
theorem does_callP (hE : SimE N w0 D0 E st a w) {f : FuncId} {r : Nat} {ks : List Nat} {cs cs' ro : List V} {res : RV} {x : Value} {vs : List Value} (hx : AvRep E (.ptr r 0 0) x) (ho : st.objs r = some (.box (cs.map (AV.val none)))) (hr : ks.contains r = false)
  (hc : ConP P f cs cs' ro res) (hargs : Reps w (E.kill (killO ks st.objs)).D false ro vs Emp) (hfit : res.fits = true)
  {id : Nat} (hf : ∀ k, k < 64 → st.objs (id + k) = none) {o : Oper} (hrun : (execOp a.eval o).run P w = .ok (.enter f (x :: vs).toArray) w) :
  Does P w0 D0 E a o (plV id (upd (killO ks st.objs) r (some (.box (cs'.map (AV.val none))))) res).1 (plV id (upd (killO ks st.objs) r (some (.box (cs'.map (AV.val none))))) res).2 := by
 intro K Q hk
 have ew := hE.ew
 have eo := hE.eo
 have hg := hE.good
 have hd : Dies E.objs (killO ks st.objs) := by rw [eo]; exact dies_killO ks st.objs
 have le1 := kill_le hg hd
 have g1 := kill_good hg hd
 have ho' : E.objs r = some (.box (cs.map (AV.val none))) := by rw [eo]; exact ho
 obtain ⟨g, hloc, rfl⟩ : ∃ g, E.loc r = some (g, 0) ∧ x = .pointer (some ⟨g, 0, none⟩) := by
  cases hx with
  | ptrRow _ _ h' => exact (h' _ ho').2
 have ho2 : (E.kill (killO ks st.objs)).objs r = some (.box (cs.map (AV.val none))) := by
  show killO ks st.objs r = _
  unfold killO; rw [hr]; exact ho
 have hlr : live ((E.kill (killO ks st.objs)).objs r) = true := by rw [ho2]; rfl
 obtain ⟨g', cur, ty, b1, b2, b3, b4⟩ := g1.roots r _ ho2
 have hgg : g' = g := by
  have b1 : E.loc r = some (g', 0) := b1
  rw [hloc] at b1
  simp only [Option.some.injEq, Prod.mk.injEq, and_true] at b1
  exact b1.symm
 subst hgg
 have hw1 : (E.kill (killO ks st.objs)).w = w := ew
 generalize hE1 : E.kill (killO ks st.objs) = E1 at *
 have eS : E1.S = E.S := by rw [← hE1]; rfl
 have eL : E1.loc = E.loc := by rw [← hE1]; rfl
 have eO : E1.objs = killO ks st.objs := by rw [← hE1]; rfl
 have hin := g1.ownIn r hlr g' (.inr ⟨0, by rw [eL]; exact hloc⟩)
 rw [hw1] at b2 hin
 unfold Oper.wp
 rw [ew, hrun, Oper.upon_enter]
 have hcs : Reps w E1.D false cs cur.toList Emp := by have := reps_vals b3; rw [hw1] at this; exact this
 refine (hc w E1.D g' cur ty vs ⟨fun q h => by rw [← hw1]; exact (g1.dIn q h).1, by rw [← hw1]; exact g1.tabs⟩ hin.2.1 hin.2.2 b2 hcs b4 hargs).mono ?_
 rintro e w' ⟨v, S, D', cur', ty', rfl, hv, hS, hD1, hD2, hc', hcs', h1', hst⟩
 -- what the frame owns stays, but for the variable
 have hblk : ∀ q, q < w.heap.size → q ≠ g' → w'.heap[q]? = w.heap[q]? := fun q h1 h2 => hst.block q h1 (fun h => h2 h)
 have hO : ∀ q, live (E1.objs q) = true → q ≠ r → ∀ p, E1.own q p → w'.heap[p]? = w.heap[p]? := by
  intro q hl hne p hp
  have h1 := g1.ownIn q hl p hp
  rw [hw1] at h1
  exact hblk p h1.2.1 (fun h => g1.apart q r hne hl hlr p hp (.inr ⟨0, by rw [eL, h]; exact hloc⟩))
 have hSr : ∀ p, E1.S r p → w'.heap[p]? = w.heap[p]? := by
  intro p hp
  have h1 := g1.ownIn r hlr p (.inl hp)
  rw [hw1] at h1
  exact hblk p h1.2.1 (fun h => g1.ownS r hlr g' 0 (by rw [eL]; exact hloc) (h ▸ hp))
 have hDk : ∀ q, E1.D q → w'.heap[q]? = w.heap[q]? := fun q hq => by
  have h1 := (g1.dIn q hq).1
  rw [hw1] at h1
  exact hblk q h1 (fun h => hin.2.2 (h ▸ hq))
 let E4 : Env := { w := w', D := D', S := E1.S, loc := E1.loc, objs := upd E1.objs r (some (.box (cs'.map (AV.val none)))) }
 have hle : E1.Le E4 := by
  refine ⟨fun q hq => ⟨hD1 q hq, by rw [hw1]; exact hDk q hq⟩, ?_, ?_⟩
  ·intro q hq
   show upd E1.objs r _ q ≠ none
   by_cases e : q = r
   ·subst e; rw [upd_same]; simp
   ·rw [upd_ne e]; exact hq
  ·intro q hq o' hoq hnd
   have hoq : upd E1.objs r (some (.box (cs'.map (AV.val none)))) q = some o' := hoq
   have held : ∀ p z, E1.loc q = some (p, z) → ∀ cu e, E1.w.heap[p]? = some (.cells cu e (0, 0)) → ∃ cu' e', w'.heap[p]? = some (.cells cu' e' (0, 0)) ∧ cu'.size = cu.size := by
    intro p z _ cu e hcu
    rw [hw1] at hcu
    exact hst.held p cu e hcu
   by_cases e : q = r
   ·subst e
    rw [upd_same] at hoq
    simp only [Option.some.injEq] at hoq; subst hoq
    exact ⟨_, ho2, rfl, fun p hp => ⟨.inl hp, by rw [hw1]; exact hSr p hp⟩, trivial, held⟩
   ·rw [upd_ne e] at hoq
    have hl : live (E1.objs q) = true := by rw [hoq]; cases o' <;> first | rfl | exact absurd rfl hnd
    exact ⟨o', hoq, rfl, fun p hp => ⟨.inl hp, by rw [hw1]; exact hO q hl e p (.inl hp)⟩, by cases o' <;> simp_all, held⟩
 have hgood : Good w0 D0 E4 := by
  have hst1 : Stays ⟨E1.w, fun q => q = g', undef⟩ w' := by rw [hw1]; exact hst
  have lv : ∀ q, live (E4.objs q) = true → live (E1.objs q) = true := by
   intro q hq
   by_cases e : q = r
   ·subst e; exact hlr
   ·have : live (upd E1.objs r (some (.box (cs'.map (AV.val none)))) q) = true := hq
    rw [upd_ne e] at this; exact this
  refine ⟨g1.below.trans hst1 (fun q hq => by rw [show q = g' from hq]; exact hin.1), ?_, fun q h => hD1 q (g1.d0 q h), ?_, ?_, ?_, ?_, g1.tabs.keep hle.d⟩
  ·intro q hq
   obtain ⟨q1, q2⟩ := hD2 q hq
   refine ⟨q1, ?_⟩
   rcases q2 with q2 | q2
   ·exact (g1.dIn q q2).2
   ·exact .inr (.inl (Nat.le_trans g1.below.size (by rw [hw1]; exact q2)))
  ·intro q oq hoq
   have hoq : upd E1.objs r (some (.box (cs'.map (AV.val none)))) q = some oq := hoq
   by_cases e : q = r
   ·subst e
    rw [upd_same] at hoq
    simp only [Option.some.injEq] at hoq; subst hoq
    exact ⟨g', cur', ty', by show E1.loc q = _; rw [eL]; exact hloc, hc', vals_reps (E := E4) hcs' (fun _ h => h), h1'⟩
   ·rw [upd_ne e] at hoq
    by_cases hdead : oq = .dead
    ·subst hdead; trivial
    ·have hl : live (E1.objs q) = true := by rw [hoq]; cases oq <;> first | rfl | exact absurd rfl hdead
     exact RootRep.le hle (g1.roots q oq hoq) rfl rfl (fun p hp => by rw [hw1]; exact hO q hl e p hp)
  ·intro q hl p hp
   obtain ⟨q1, q2, q3⟩ := g1.ownIn q (lv q hl) p hp
   rw [hw1] at q2
   refine ⟨q1, Nat.lt_of_lt_of_le q2 hst.size, fun hd' => ?_⟩
   rcases (hD2 p hd').2 with h | h
   ·exact q3 h
   ·omega
  ·intro q hl p z hp
   exact g1.ownS q (lv q hl) p z hp
  ·intro q q' hne hl hl' p hp
   exact g1.apart q q' hne (lv q hl) (lv q' hl') p hp
 have hsp : Spare w0 E4 S := by
  intro q hq
  obtain ⟨q1, q2, q3⟩ := hS q hq
  refine ⟨⟨.inl (Nat.le_trans g1.below.size (by rw [hw1]; exact q1)), fun p hl hp => ?_⟩, q2, q3⟩
  have hl1 : live (E1.objs p) = true := by
   by_cases e : p = r
   ·subst e; exact hlr
   ·have : live (upd E1.objs r (some (.box (cs'.map (AV.val none)))) p) = true := hl
    rw [upd_ne e] at this; exact this
  have := (g1.ownIn p hl1 q hp).2.1
  rw [hw1] at this
  omega
 have hfr : ∀ k, k < 64 → E4.objs (id + k) = none := by
  intro k hk
  show upd E1.objs r _ (id + k) = none
  have h0 := hf k hk
  rw [upd_ne (fun e => by rw [e, ho] at h0; cases h0), eO]
  unfold killO
  rw [h0]; split <;> rfl
 obtain ⟨E5, le5, g5, hw5, ho5, hr5⟩ := plV_rep (E := E4) hgood (id := id) hfit hfr hv hsp
 have e4 : E4.objs = upd (killO ks st.objs) r (some (.box (cs'.map (AV.val none)))) := by show upd E1.objs r _ = _; rw [eO]
 rw [e4] at ho5 hr5
 have := hk E5 v (le1.trans (hle.trans le5)) g5 ho5 hr5
 rw [hw5] at this
 exact this
theorem does_callN (hE : SimE N w0 D0 E st a w) {f : FuncId} {cs ro : List V} {vs : List Value} (hc : ConN P f ro cs) (hargs : Reps w E.D false ro vs Emp)
  {id : Nat} (hf : ∀ k, k < 64 → st.objs (id + k) = none) {o : Oper} (hrun : (execOp a.eval o).run P w = .ok (.enter f vs.toArray) w) :
  Does P w0 D0 E a o (.ptr id 0 0) (upd st.objs id (some (.box (cs.map (AV.val none))))) := by
 intro K Q hk
 have ew := hE.ew
 have eo := hE.eo
 have hg := hE.good
 have hf0 : E.objs id = none := by rw [eo]; simpa using hf 0 (by omega)
 unfold Oper.wp
 rw [ew, hrun, Oper.upon_enter]
 refine (hc w E.D vs ⟨fun q h => by rw [← ew]; exact (hg.dIn q h).1, by rw [← ew]; exact hg.tabs⟩ hargs).mono ?_
 rintro e w' ⟨g, cur, ty, rfl, hge, hcur, hcs, h1, hb⟩
 obtain ⟨le1, g1⟩ := stp_ok hg (w' := w') (D' := E.D) (by rw [ew]; exact hb) (fun _ h => h) (fun q h => ⟨Nat.lt_of_lt_of_le (by have := (hg.dIn q h).1; rw [ew] at this; exact this) hb.size, .inl h⟩)
 have hsp : Fresh w0 (E.stp w' E.D) g := ⟨.inl (Nat.le_trans hg.below.size (by rw [ew]; exact hge)), fun r hl hp => by have := (hg.ownIn r hl g hp).2.1; rw [ew] at this; omega⟩
 have hlt : g < w'.heap.size := (Array.getElem?_eq_some_iff.1 hcur).1
 have hnd : ¬ E.D g := fun h => by have := (hg.dIn g h).1; rw [ew] at this; omega
 let E4 : Env := { w := w', D := E.D, S := upd E.S id Emp, loc := upd E.loc id (some (g, 0)), objs := upd E.objs id (some (.box (cs.map (AV.val none)))) }
 have hne : ∀ q, E.objs q ≠ none → q ≠ id := fun q h e => h (e ▸ hf0)
 have hle : (E.stp w' E.D).Le E4 := by
  refine ⟨fun q hq => ⟨hq, rfl⟩, ?_, ?_⟩
  ·intro q hq
   show upd E.objs id _ q ≠ none
   rw [upd_ne (hne q hq)]; exact hq
  ·intro q hq o' hoq hnd
   have hq' := hne q hq
   have hoq : upd E.objs id (some (.box (cs.map (AV.val none)))) q = some o' := hoq
   rw [upd_ne hq'] at hoq
   refine ⟨o', hoq, ?_, fun p hp => ⟨.inl ?_, rfl⟩, by cases o' <;> simp_all, fun p z _ cu e hcu => ⟨cu, e, hcu, rfl⟩⟩
   ·show upd E.loc id _ q = _; rw [upd_ne hq']; rfl
   ·show upd E.S id Emp q p; rw [upd_ne hq']; exact hp
 have hown : ∀ q, q ≠ id → ∀ p, E4.own q p → (E.stp w' E.D).own q p := by
  rintro q hq p (h | ⟨z, h⟩)
  ·have h : upd E.S id Emp q p := h
   rw [upd_ne hq] at h; exact .inl h
  ·have h : upd E.loc id (some (g, 0)) q = some (p, z) := h
   rw [upd_ne hq] at h; exact .inr ⟨z, h⟩
 have hown0 : ∀ p, E4.own id p → p = g := by
  rintro p (h | ⟨z, h⟩)
  ·have h : upd E.S id Emp id p := h
   rw [upd_same] at h; exact h.elim
  ·have h : upd E.loc id (some (g, 0)) id = some (p, z) := h
   rw [upd_same] at h
   simp only [Option.some.injEq, Prod.mk.injEq] at h; exact h.1.symm
 have hl1 : ∀ q, q ≠ id → live (E4.objs q) = true → live (E.objs q) = true := by
  intro q hq hl
  have hl : live (upd E.objs id (some (.box (cs.map (AV.val none)))) q) = true := hl
  rw [upd_ne hq] at hl; exact hl
 have hgood : Good w0 D0 E4 := by
  refine ⟨g1.below, g1.dIn, g1.d0, ?_, ?_, ?_, ?_, g1.tabs.keep hle.d⟩
  ·intro q oq hoq
   have hoq : upd E.objs id (some (.box (cs.map (AV.val none)))) q = some oq := hoq
   by_cases e : q = id
   ·subst e
    rw [upd_same] at hoq
    simp only [Option.some.injEq] at hoq; subst hoq
    exact ⟨g, cur, ty, by show upd E.loc q _ q = _; rw [upd_same], hcur, vals_reps (E := E4) hcs (fun _ h => h), h1⟩
   ·rw [upd_ne e] at hoq
    refine RootRep.le hle (g1.roots q oq hoq) ?_ ?_ (fun _ _ => rfl)
    ·show upd E.loc id _ q = _; rw [upd_ne e]; rfl
    ·show upd E.S id Emp q = _; rw [upd_ne e]; rfl
  ·intro q hl p hp
   by_cases e : q = id
   ·subst e
    rw [hown0 p hp]
    exact ⟨hsp.1, hlt, hnd⟩
   ·exact g1.ownIn q (hl1 q e hl) p (hown q e p hp)
  ·intro q hl p z hp hS
   by_cases e : q = id
   ·subst e
    have hS : upd E.S q Emp q p := hS
    rw [upd_same] at hS; exact hS.elim
   ·have hp : upd E.loc id (some (g, 0)) q = some (p, z) := hp
    have hS : upd E.S id Emp q p := hS
    rw [upd_ne e] at hp hS
    exact g1.ownS q (hl1 q e hl) p z hp hS
  ·intro q q' hqq hl hl' p hp hp'
   by_cases e : q = id
   ·subst e
    have e' : q' ≠ q := fun h => hqq h.symm
    rw [hown0 p hp] at hp'
    exact hsp.2 q' (hl1 q' e' hl') (hown q' e' g hp')
   ·by_cases e' : q' = id
    ·subst e'
     rw [hown0 p hp'] at hp
     exact hsp.2 q (hl1 q e hl) (hown q e g hp)
    ·exact g1.apart q q' hqq (hl1 q e hl) (hl1 q' e' hl') p (hown q e p hp) (hown q' e' p hp')
 have hptr : AvRep E4 (.ptr id 0 0) (.pointer (some ⟨g, 0, none⟩)) := by
  refine .ptrRow ?_ ?_ ?_
  ·show upd E.objs id _ id ≠ none; rw [upd_same]; simp
  ·intro own sz L h
   have h : upd E.objs id (some (.box (cs.map (AV.val none)))) id = some (.row own sz L) := h
   rw [upd_same] at h; cases h
  ·intro cs2 h
   exact ⟨rfl, g, by show upd E.loc id _ id = _; rw [upd_same], rfl⟩
 have := hk E4 _ (le1.trans hle) hgood (by show upd E.objs id _ = _; rw [eo]) hptr
 exact this
end
end Go.Ab
