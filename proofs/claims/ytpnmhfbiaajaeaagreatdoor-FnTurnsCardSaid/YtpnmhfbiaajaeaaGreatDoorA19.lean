import Derived.Test.YtpnmhfbiaajaeaaGreatDoorA16
set_option linter.unusedVariables false
set_option linter.unusedSimpArgs false
namespace Go.Ab
open Go.RowKit
inductive Ment : AV → Nat → Prop
 | val {r : Nat} {v : V} : Ment (.val (some r) v) r
 | sl {r off len : Nat} : Ment (.sl r off len) r
 | ptr {r i f : Nat} : Ment (.ptr r i f) r
 | agg {cs : List AV} {c : AV} {r : Nat} (hc : c ∈ cs) (h : Ment c r) : Ment (.agg cs) r
 | tup {cs : List AV} {c : AV} {r : Nat} (hc : c ∈ cs) (h : Ment c r) : Ment (.tup cs) r
 | fn {f : Nat} {cs : List AV} {c : AV} {r : Nat} (hc : c ∈ cs) (h : Ment c r) : Ment (.fn f cs) r
 | mp {r : Nat} : Ment (.mp r) r
def Kn (o : Objs) (c : AV) : Prop := ∀ r, Ment c r → o r ≠ none
structure KnSt (s : St) : Prop where
 tmps : ∀ t, Kn s.objs (s.tmps t)
 box : ∀ r cs, s.objs r = some (.box cs) → ∀ c ∈ cs, Kn s.objs c
theorem kn_val0 {o : Objs} {v : V} : Kn o (.val none v) := by intro r h; cases h
theorem kn_val1 {o : Objs} {r : Nat} {v : V} (h : o r ≠ none) : Kn o (.val (some r) v) := by intro q hq; cases hq; exact h
theorem kn_sl {o : Objs} {r off len : Nat} (h : o r ≠ none) : Kn o (.sl r off len) := by intro q hq; cases hq; exact h
theorem kn_ptr {o : Objs} {r i f : Nat} (h : o r ≠ none) : Kn o (.ptr r i f) := by intro q hq; cases hq; exact h
theorem kn_agg {o : Objs} {cs : List AV} (h : ∀ c ∈ cs, Kn o c) : Kn o (.agg cs) := by intro q hq; cases hq with | agg hc hm => exact h _ hc q hm
theorem kn_tup {o : Objs} {cs : List AV} (h : ∀ c ∈ cs, Kn o c) : Kn o (.tup cs) := by intro q hq; cases hq with | tup hc hm => exact h _ hc q hm
theorem kn_fn {o : Objs} {f : Nat} {cs : List AV} (h : ∀ c ∈ cs, Kn o c) : Kn o (.fn f cs) := by intro q hq; cases hq with | fn hc hm => exact h _ hc q hm
theorem kn_bad {o : Objs} : Kn o .bad := by intro q hq; cases hq
theorem kn_mp {o : Objs} {r : Nat} (h : o r ≠ none) : Kn o (.mp r) := by intro q hq; cases hq; exact h
theorem kn_ub {o : Objs} : Kn o .ub := by intro q hq; cases hq
theorem kn_e0 {o : Objs} : Kn o .e0 := by intro q hq; cases hq
mutual
theorem AvRep.kn {E : Env} : ∀ {c : AV} {x : Value}, AvRep E c x → Kn E.objs c
 | _, _, .val0 _ => kn_val0
 | _, _, .val1 hr _ => kn_val1 hr
 | _, _, .sl hr _ => kn_sl hr
 | _, _, .ptrRow hr _ _ => kn_ptr hr
 | _, _, .agg _ h => kn_agg (AvReps.kn h)
 | _, _, .tup h => kn_tup (AvReps.kn h)
 | _, _, .fn h => kn_fn (AvReps.kn h)
 | _, _, .bad => kn_bad
 | _, _, .ub => kn_ub
 | _, _, .e0 => kn_e0
 | _, _, .mp hr _ => kn_mp hr
theorem AvReps.kn {E : Env} : ∀ {cs : List AV} {xs : List Value}, AvReps E cs xs → ∀ c ∈ cs, Kn E.objs c
 | _, _, .nil => by simp
 | _, _, .cons h hs => by
  intro c hc
  rcases List.mem_cons.1 hc with rfl | hc
  ·exact h.kn
  ·exact AvReps.kn hs c hc
end
theorem SimE.kn {N : Fr} {w0 : Base} {D0 : BSet} {E : Env} {st : St} {a : Act} {w : World} (hE : SimE N w0 D0 E st a w) : KnSt st := by
 refine ⟨fun t => by rw [← hE.eo]; exact (hE.tmps t).kn, ?_⟩
 intro r cs ho c hc
 rw [← hE.eo] at ho ⊢
 obtain ⟨g, cur, e, _, _, h, _⟩ := hE.good.roots r _ ho
 exact h.kn c hc
def Agr (s s' : St) : Prop := ∀ r, s.objs r ≠ none → s'.objs r = s.objs r
def rdX : X → List Nat
 | .t n => [n]
 | _ => []
def rdXo : Option X → List Nat
 | some x => rdX x
 | none => []
def rdXs : List X → List Nat
 | [] => []
 | x :: xs => rdX x ++ rdXs xs
def MO.rd : MO → List Nat
 | .mv x | .nck x | .not x | .neg x | .conv _ x | .cvs x | .bts x | .fad x _ | .fld x _ _ _ | .ld x _ _ | .ext x _ | .len x | .lens x | .isn _ x => rdX x
 | .pick c a b => rdX c ++ (rdX a ++ rdX b)
 | .bin _ x y | .bnb _ x y | .eqs _ _ x y | .iad x y _ | .ixs x y | .ixa x y _ _ _ | .mnx _ x y => rdX x ++ rdX y
 | .slc x lo hi _ | .slcs x lo hi => rdX x ++ (rdXo lo ++ rdXo hi)
 | .slc3 x lo hi mx _ => rdX x ++ (rdXo lo ++ (rdXo hi ++ rdXo mx))
 | .mkf _ caps => rdXs caps
 | .mlk _ x k _ _ => rdX x ++ rdX k
section
variable {s s' : St}
theorem get_agr {x : X} (ht : ∀ t ∈ rdX x, s'.tmps t = s.tmps t) : s'.get x = s.get x := by
 cases x <;> first | rfl | exact ht _ (by simp [rdX])
theorem gets_agr : ∀ {xs : List X} (ht : ∀ t ∈ rdXs xs, s'.tmps t = s.tmps t), xs.map s'.get = xs.map s.get
 | [], _ => rfl
 | x :: xs, ht => by
  simp only [List.map_cons]
  rw [get_agr (fun t h => ht t (by simp [rdXs, h])), gets_agr (fun t h => ht t (by simp [rdXs, h]))]
theorem get_kn (hk : KnSt s) (x : X) : Kn s.objs (s.get x) := by
 cases x with
 | t n => exact hk.tmps n
 | c v => exact kn_val0
 | f n => exact kn_fn (by simp)
theorem view_agr (ha : Agr s s') {c : AV} (hk : Kn s.objs c) : s'.view c = s.view c := by
 cases c with
 | val src v =>
  cases src with
  | none => rfl
  | some r => simp only [St.view]; rw [ha r (hk r .val)]
 | _ => rfl
theorem sl_agr (ha : Agr s s') {r off len : Nat} (hk : Kn s.objs (.sl r off len)) : s'.objs r = s.objs r := ha r (hk r .sl)
theorem ptr_agr (ha : Agr s s') {r i f : Nat} (hk : Kn s.objs (.ptr r i f)) : s'.objs r = s.objs r := ha r (hk r .ptr)
theorem bnd_agr (ha : Agr s s') (hk : KnSt s) {d : Nat} {x : Option X} (ht : ∀ t ∈ rdXo x, s'.tmps t = s.tmps t) : bnd s' d x = bnd s d x := by
 cases x with
 | none => rfl
 | some x => simp only [bnd]; rw [get_agr ht, view_agr ha (get_kn hk x)]
theorem aggOf_agr (ha : Agr s s') {c : AV} (hk : Kn s.objs c) : aggOf s' c = aggOf s c := by
 cases c with
 | agg cs => rfl
 | _ => simp only [aggOf]; rw [view_agr ha hk]
theorem mapOf_agr (ha : Agr s s') {c : AV} (hk : Kn s.objs c) : mapOf s' c = mapOf s c := by
 cases c with
 | mp r => simp only [mapOf]; rw [ha r (hk r .mp)]
 | _ => simp only [mapOf, view_agr ha hk]
theorem scOf_agr (ha : Agr s s') {c : AV} (hk : Kn s.objs c) : scOf s' c = scOf s c := by
 simp only [scOf, view_agr ha hk]
theorem ev_agr (ha : Agr s s') (hk : KnSt s) {m : MO} (ht : ∀ t ∈ m.rd, s'.tmps t = s.tmps t) : ev s' m = ev s m := by
 cases m <;> simp only [MO.rd] at ht
 case mv x => simp only [ev]; rw [get_agr ht]
 case pick c a b =>
  simp only [ev]
  rw [get_agr (x := c) (fun t h => ht t (by simp [h])), get_agr (x := a) (fun t h => ht t (by simp [h])), get_agr (x := b) (fun t h => ht t (by simp [h])), view_agr ha (get_kn hk c)]
 case nck x =>
  have hkx := get_kn hk x
  simp only [ev]; rw [get_agr ht]
  generalize s.get x = c at hkx
  cases c with
  | ptr r i f => simp only; rw [ptr_agr ha hkx]
  | _ => simp only [view_agr ha hkx]
 case bin op x y => simp only [ev]; rw [get_agr (x := x) (fun t h => ht t (by simp [h])), get_agr (x := y) (fun t h => ht t (by simp [h])), view_agr ha (get_kn hk x), view_agr ha (get_kn hk y)]
 case bnb n x y => simp only [ev]; rw [get_agr (x := x) (fun t h => ht t (by simp [h])), get_agr (x := y) (fun t h => ht t (by simp [h])), view_agr ha (get_kn hk x), view_agr ha (get_kn hk y)]
 case eqs n ks x y =>
  simp only [ev]; rw [get_agr (x := x) (fun t h => ht t (by simp [h])), get_agr (x := y) (fun t h => ht t (by simp [h])), aggOf_agr ha (get_kn hk x), aggOf_agr ha (get_kn hk y)]
 case not x => simp only [ev]; rw [get_agr ht, view_agr ha (get_kn hk x)]
 case neg x => simp only [ev]; rw [get_agr ht, view_agr ha (get_kn hk x)]
 case conv k x => simp only [ev]; rw [get_agr ht, view_agr ha (get_kn hk x)]
 case cvs x => simp only [ev]; rw [get_agr ht, view_agr ha (get_kn hk x)]
 case bts x =>
  have hkx := get_kn hk x
  simp only [ev]; rw [get_agr ht]
  generalize s.get x = c at hkx
  cases c with
  | sl r off len => simp only; rw [sl_agr ha hkx]
  | _ => simp only [view_agr ha hkx]
 case fad x f =>
  have hkx := get_kn hk x
  simp only [ev]; rw [get_agr ht]
  generalize s.get x = c at hkx
  cases c with
  | ptr r i f => simp only; rw [ptr_agr ha hkx]
  | _ => simp only [view_agr ha hkx]
 case fld x f n ag =>
  have hkx := get_kn hk x
  simp only [ev]; rw [get_agr ht]
  generalize s.get x = c at hkx
  cases c <;> simp only [view_agr ha hkx]
 case iad x i sz =>
  have hkx := get_kn hk x
  simp only [ev]; rw [get_agr (x := x) (fun t h => ht t (by simp [h])), get_agr (x := i) (fun t h => ht t (by simp [h])), view_agr ha (get_kn hk i)]
  generalize s.get x = c at hkx
  cases c with
  | sl r off len => simp only; rw [sl_agr ha hkx]
  | _ => simp only [view_agr ha hkx]
 case ixs x i => simp only [ev]; rw [get_agr (x := x) (fun t h => ht t (by simp [h])), get_agr (x := i) (fun t h => ht t (by simp [h])), view_agr ha (get_kn hk x), view_agr ha (get_kn hk i)]
 case ixa x i l sz ag =>
  have hkx := get_kn hk x
  simp only [ev]; rw [get_agr (x := x) (fun t h => ht t (by simp [h])), get_agr (x := i) (fun t h => ht t (by simp [h])), view_agr ha (get_kn hk i)]
  generalize s.get x = c at hkx
  cases c <;> simp only [view_agr ha hkx]
 case ld x n ag =>
  have hkx := get_kn hk x
  simp only [ev]; rw [get_agr ht]
  generalize s.get x = c at hkx
  cases c with
  | ptr r i f => simp only; rw [ptr_agr ha hkx]
  | _ => simp only [view_agr ha hkx]
 case slc x lo hi sz =>
  have hkx := get_kn hk x
  simp only [ev]
  rw [get_agr (x := x) (fun t h => ht t (by simp [h]))]
  have e1 : ∀ d, bnd s' d lo = bnd s d lo := fun d => bnd_agr ha hk (fun t h => ht t (by simp [h]))
  have e2 : ∀ d, bnd s' d hi = bnd s d hi := fun d => bnd_agr ha hk (fun t h => ht t (by simp [h]))
  generalize s.get x = c at hkx
  cases c with
  | sl r off len => simp only [e1, e2]; rw [sl_agr ha hkx]
  | _ => simp only [view_agr ha hkx, e1, e2]
 case slc3 x lo hi mx sz =>
  have hkx := get_kn hk x
  simp only [ev]
  rw [get_agr (x := x) (fun t h => ht t (by simp [h]))]
  have e1 : ∀ d, bnd s' d lo = bnd s d lo := fun d => bnd_agr ha hk (fun t h => ht t (by simp [h]))
  have e2 : ∀ d, bnd s' d hi = bnd s d hi := fun d => bnd_agr ha hk (fun t h => ht t (by simp [h]))
  have e3 : ∀ d, bnd s' d mx = bnd s d mx := fun d => bnd_agr ha hk (fun t h => ht t (by simp [h]))
  generalize s.get x = c at hkx
  cases c with
  | sl r off len => simp only [e1, e2, e3]; rw [sl_agr ha hkx]
  | _ => rfl
 case slcs x lo hi =>
  simp only [ev]
  rw [get_agr (x := x) (fun t h => ht t (by simp [h])), view_agr ha (get_kn hk x)]
  have e1 : ∀ d, bnd s' d lo = bnd s d lo := fun d => bnd_agr ha hk (fun t h => ht t (by simp [h]))
  have e2 : ∀ d, bnd s' d hi = bnd s d hi := fun d => bnd_agr ha hk (fun t h => ht t (by simp [h]))
  simp only [e1, e2]
 case ext x j => simp only [ev]; rw [get_agr ht]
 case len x =>
  have hkx := get_kn hk x
  simp only [ev]; rw [get_agr ht]
  generalize s.get x = c at hkx
  cases c with
  | sl r off len => simp only; rw [sl_agr ha hkx]
  | _ => simp only [view_agr ha hkx]
 case lens x => simp only [ev]; rw [get_agr ht, view_agr ha (get_kn hk x)]
 case isn neg x =>
  have hkx := get_kn hk x
  simp only [ev]; rw [get_agr ht]
  generalize s.get x = c at hkx
  cases c with
  | sl r off len => simp only; rw [sl_agr ha hkx]
  | _ => simp only [view_agr ha hkx]
 case mnx mx x y => simp only [ev]; rw [get_agr (x := x) (fun t h => ht t (by simp [h])), get_agr (x := y) (fun t h => ht t (by simp [h])), view_agr ha (get_kn hk x), view_agr ha (get_kn hk y)]
 case mkf f caps => simp only [ev]; rw [gets_agr ht]
 case mlk kd x k z ok => simp only [ev]; rw [get_agr (x := x) (fun t h => ht t (by simp [h])), get_agr (x := k) (fun t h => ht t (by simp [h])), mapOf_agr ha (get_kn hk x), scOf_agr ha (get_kn hk k)]
theorem trav_congr {f g : AV → Option V} : ∀ {cs : List AV} (h : ∀ c ∈ cs, f c = g c), trav f cs = trav g cs
 | [], _ => rfl
 | c :: cs, h => by simp only [trav]; rw [h c (by simp), trav_congr (fun c hc => h c (by simp [hc]))]
theorem snap_agr (ha : Agr s s') (hk : KnSt s) {ln : Bool} : ∀ (k : Nat) {c : AV}, Kn s.objs c → snap ln s' k c = snap ln s k c
 | 0, _, _ => rfl
 | k + 1, c, hc => by
  have ih : ∀ {c : AV}, Kn s.objs c → snap ln s' k c = snap ln s k c := fun h => snap_agr ha hk (ln := ln) k h
  cases c with
  | val src v =>
   cases src with
   | none => rfl
   | some r => simp only [snap]; rw [ha r (hc r .val)]
  | sl r off len => simp only [snap]; rw [sl_agr ha hc]
  | ptr r i f =>
   simp only [snap]; rw [ptr_agr ha hc]
   cases ho : s.objs r with
   | none => rfl
   | some o =>
    cases o with
    | row own sz L => rfl
    | dead => rfl
    | map es => rfl
    | box cs =>
     simp only
     rw [trav_congr (fun c hm => ih (hk.box r cs ho c hm))]
  | agg cs => simp only [snap]; rw [trav_congr (fun c hm => ih (fun q hq => hc q (.agg hm hq)))]
  | tup cs => rfl
  | fn f cs => simp only [snap]; rw [trav_congr (fun c hm => ih (fun q hq => hc q (.fn hm hq)))]
  | bad => rfl
  | ub => rfl
  | e0 => rfl
  | mp r => simp only [snap]; rw [ha r (hc r .mp)]
theorem fnOf_agr (ha : Agr s s') {c : AV} (hk : Kn s.objs c) : fnOf s' c = fnOf s c := by
 unfold fnOf
 cases c <;> simp only [view_agr ha hk]
theorem fnOf_kn {c : AV} (hk : Kn s.objs c) {f : Nat} {caps : List AV} (h : fnOf s c = some (f, caps)) : ∀ c ∈ caps, Kn s.objs c := by
 unfold fnOf at h
 split at h
 ·simp only [Option.some.injEq, Prod.mk.injEq] at h
  obtain ⟨rfl, rfl⟩ := h
  exact fun c hc q hq => hk q (.fn hc hq)
 ·split at h
  ·rename_i src f' cps hv
   simp only [Option.some.injEq, Prod.mk.injEq] at h
   obtain ⟨rfl, rfl⟩ := h
   intro c' hc'
   obtain ⟨v, _, rfl⟩ := List.mem_map.1 hc'
   cases src with
   | none => exact kn_val0
   | some r =>
    refine kn_val1 ?_
    unfold St.view at hv
    split at hv
    ·simp at hv
    ·split at hv
     ·rename_i r' v' hl
      simp only [Option.some.injEq, Prod.mk.injEq] at hv
      obtain ⟨rfl, _⟩ := hv
      intro hn
      rw [hn] at hl
      cases hl
     ·cases hv
    ·cases hv
  ·cases h
theorem cellsAV_agr (ha : Agr s s') {c : AV} (hk : Kn s.objs c) : cellsAV s' c = cellsAV s c := by
 unfold cellsAV
 cases c with
 | sl r off len => simp only; rw [sl_agr ha hk]
 | ptr r i f => simp only; rw [ptr_agr ha hk]
 | mp r => simp only; rw [ha r (hk r .mp)]
 | val src v => simp only [view_agr ha hk]
 | _ => rfl
def over (o : Objs) (G : Objs) : Objs := fun q => match G q with
 | some r => some r
 | none => o q
def Slot (id : Nat) (G : Objs) : Prop := ∀ q, G q ≠ none → id ≤ q ∧ q < id + 64
theorem over_upd (o G : Objs) (id : Nat) (r : Root) : upd (over o G) id (some r) = over o (upd G id (some r)) := by
 funext q
 by_cases e : q = id
 ·subst e; simp [upd_same, over]
 ·simp [upd_ne e, over]
theorem over_upd0 (o : Objs) (id : Nat) (r : Root) : upd o id (some r) = over o (upd (fun _ => none) id (some r)) := over_upd o (fun _ => none) id r
theorem pl1_over (r : R1) (id : Nat) : ∃ av G, ∀ o H, (pl1 id (over o H) r) = (av, over o (over H G)) ∧ ∀ q, G q ≠ none → q = id := by
 cases r with
 | val v => exact ⟨.val none v, fun _ => none, fun o H => ⟨rfl, by simp⟩⟩
 | row own sz L =>
  refine ⟨.sl id 0 L.length, upd (fun _ => none) id (some (.row own sz L)), fun o H => ⟨?_, ?_⟩⟩
  ·simp only [pl1]
   rw [over_upd, over_upd0 H]
  ·intro q hq
   by_cases e : q = id
   ·exact e
   ·rw [upd_ne e] at hq; exact absurd rfl hq
theorem over_assoc (H G G' : Objs) : over (over H G) G' = over H (over G G') := by
 funext q
 simp only [over]
 cases G' q <;> rfl
theorem pl1L_over : ∀ (rs : List R1) (id : Nat), ∃ avs G, ∀ o H, (pl1L id (over o H) rs) = (avs, over o (over H G)) ∧ ∀ q, G q ≠ none → id ≤ q ∧ q < id + rs.length
 | [], id => ⟨[], fun _ => none, fun o H => ⟨rfl, by simp⟩⟩
 | r :: rs, id => by
  obtain ⟨av, G, h⟩ := pl1_over r id
  obtain ⟨avs, G', h'⟩ := pl1L_over rs (id + 1)
  refine ⟨av :: avs, over G G', fun o H => ⟨?_, ?_⟩⟩
  ·simp only [pl1L]
   rw [(h o H).1]
   simp only
   rw [(h' o (over H G)).1]
   simp only [over_assoc]
  ·intro q hq
   simp only [over] at hq
   simp only [List.length_cons]
   cases hg : G' q with
   | some x => have := (h' o H).2 q (by rw [hg]; simp); omega
   | none => rw [hg] at hq; have := (h o H).2 q hq; omega
theorem pl2_overN {n : Nat} (hn : 0 < n) (r : R2) (id : Nat) (hf : r.wide n = true) : ∃ av G, ∀ o H, (pl2 id (over o H) r) = (av, over o (over H G)) ∧ ∀ q, G q ≠ none → id ≤ q ∧ q < id + n := by
 cases r with
 | one r =>
  obtain ⟨av, G, h⟩ := pl1_over r id
  exact ⟨av, G, fun o H => ⟨(h o H).1, fun q hq => by have := (h o H).2 q hq; omega⟩⟩
 | agg rs =>
  simp only [R2.wide, decide_eq_true_eq] at hf
  obtain ⟨avs, G, h⟩ := pl1L_over rs id
  exact ⟨.agg avs, G, fun o H => ⟨by simp only [pl2]; rw [(h o H).1], fun q hq => by have := (h o H).2 q hq; omega⟩⟩
theorem pl2_over (r : R2) (id : Nat) (hf : r.fits = true) : ∃ av G, ∀ o H, (pl2 id (over o H) r) = (av, over o (over H G)) ∧ ∀ q, G q ≠ none → id ≤ q ∧ q < id + 16 := pl2_overN (by omega) r id hf
theorem pl2L_over : ∀ (rs : List R2) (id : Nat) (hf : ∀ r ∈ rs, R2.fits r = true), ∃ avs G, ∀ o H, (pl2L id (over o H) rs) = (avs, over o (over H G)) ∧ ∀ q, G q ≠ none → id ≤ q ∧ q < id + 16 * rs.length
 | [], id, _ => ⟨[], fun _ => none, fun o H => ⟨rfl, by simp⟩⟩
 | r :: rs, id, hf => by
  obtain ⟨av, G, h⟩ := pl2_over r id (hf r (by simp))
  obtain ⟨avs, G', h'⟩ := pl2L_over rs (id + 16) (fun r hr => hf r (by simp [hr]))
  refine ⟨av :: avs, over G G', fun o H => ⟨?_, ?_⟩⟩
  ·simp only [pl2L]
   rw [(h o H).1]
   simp only
   rw [(h' o (over H G)).1]
   simp only [over_assoc]
  ·intro q hq
   simp only [over] at hq
   simp only [List.length_cons]
   cases hg : G' q with
   | some x => have := (h' o H).2 q (by rw [hg]; simp); omega
   | none => rw [hg] at hq; have := (h o H).2 q hq; omega
theorem plV_over (r : RV) (id : Nat) (hf : r.fits = true) : ∃ av G, Slot id G ∧ ∀ o, plV id o r = (av, over o G) := by
 have e0 : ∀ G : Objs, over (fun _ => none) G = G := by
  intro G; funext q; simp only [over]; cases G q <;> rfl
 cases r with
 | one r =>
  obtain ⟨av, G, h⟩ := pl2_overN (n := 64) (by omega) r id hf
  refine ⟨av, G, fun q hq => by have := (h (fun _ => none) (fun _ => none)).2 q hq; omega, fun o => ?_⟩
  have := (h o (fun _ => none)).1
  rw [e0] at this
  exact this
 | tup rs =>
  simp only [RV.fits, Bool.and_eq_true, decide_eq_true_eq, List.all_eq_true] at hf
  obtain ⟨avs, G, h⟩ := pl2L_over rs id hf.2
  refine ⟨.tup avs, G, fun q hq => by have := (h (fun _ => none) (fun _ => none)).2 q hq; omega, fun o => ?_⟩
  have := (h o (fun _ => none)).1
  rw [e0] at this
  simp only [plV]
  have e1 : over o (fun _ => none) = o := rfl
  rw [e1] at this
  rw [this]
theorem zc1_plain (z : V) (n : Nat) (b : Bool) (hz : ¬ (z = .sl 0 [] ∧ b = false)) : ∃ av, ∀ id o, zc1 id o (z, n, b) = (av, o, id) := by
 cases b with
 | true => exact ⟨.bad, fun id o => rfl⟩
 | false =>
  refine ⟨.val none z, fun id o => ?_⟩
  cases z with
  | sl sz L =>
   cases sz with
   | zero => cases L with
    | nil => exact absurd ⟨rfl, rfl⟩ hz
    | cons => rfl
   | succ => rfl
  | _ => rfl
theorem zcells_over : ∀ (zs : List (V × Nat × Bool)) (id : Nat), ∃ avs G, ∀ o H, zcells id (over o H) zs = (avs, over o (over H G)) ∧ ∀ q, G q ≠ none → id ≤ q ∧ q < id + zs.length
 | [], id => ⟨[], fun _ => none, fun o H => ⟨rfl, by simp⟩⟩
 | (z, n, b) :: zs, id => by
  by_cases hz : z = .sl 0 [] ∧ b = false
  ·obtain ⟨rfl, rfl⟩ := hz
   obtain ⟨avs, G, h⟩ := zcells_over zs (id + 1)
   refine ⟨.sl id 0 0 :: avs, over (upd (fun _ => none) id (some (.row true n []))) G, fun o H => ⟨?_, ?_⟩⟩
   ·simp only [zcells, zc1]
    rw [over_upd, over_upd0 H, (h o _).1]
    simp only [over_assoc]
   ·intro q hq
    simp only [over] at hq
    simp only [List.length_cons]
    cases hg : G q with
    | some x => have := (h o H).2 q (by rw [hg]; simp); omega
    | none =>
     rw [hg] at hq
     by_cases e : q = id
     ·omega
     ·simp only [upd_ne e] at hq; exact absurd rfl hq
  ·obtain ⟨avs, G, h⟩ := zcells_over zs id
   obtain ⟨av, hav⟩ := zc1_plain z n b hz
   refine ⟨av :: avs, G, fun o H => ⟨?_, ?_⟩⟩
   ·simp only [zcells, hav, (h o H).1]
   ·intro q hq
    have := (h o H).2 q hq
    simp only [List.length_cons]
    omega
theorem zcells_kn : ∀ (zs : List (V × Nat × Bool)) (id : Nat) (o : Objs), (∀ c ∈ (zcells id o zs).1, Kn (zcells id o zs).2 c) ∧ (∀ q, o q ≠ none → (zcells id o zs).2 q ≠ none) ∧ ∀ q cs, (zcells id o zs).2 q = some (.box cs) → o q = some (.box cs) := by
 intro zs
 induction zs with
 | nil => intro id o; exact ⟨by simp [zcells], fun q h => h, fun q cs h => h⟩
 | cons z zs ih =>
  intro id o
  obtain ⟨z, n, b⟩ := z
  by_cases hz : z = .sl 0 [] ∧ b = false
  ·obtain ⟨rfl, rfl⟩ := hz
   obtain ⟨b1, b2, b3⟩ := ih (id + 1) (upd o id (some (.row true n [])))
   refine ⟨?_, ?_, ?_⟩
   ·intro c hc
    simp only [zcells, zc1] at hc ⊢
    rcases List.mem_cons.1 hc with rfl | hc
    ·exact kn_sl (b2 id (by simp [upd_same]))
    ·exact b1 c hc
   ·intro q hq
    simp only [zcells, zc1]
    refine b2 q ?_
    by_cases e : q = id
    ·subst e; simp [upd_same]
    ·rw [upd_ne e]; exact hq
   ·intro q cs hq
    simp only [zcells, zc1] at hq
    have := b3 q cs hq
    by_cases e : q = id
    ·subst e; rw [upd_same] at this; cases this
    ·rw [upd_ne e] at this; exact this
  ·obtain ⟨av, hav⟩ := zc1_plain z n b hz
   obtain ⟨b1, b2, b3⟩ := ih id o
   simp only [zcells, hav]
   refine ⟨?_, b2, b3⟩
   intro c hc
   rcases List.mem_cons.1 hc with rfl | hc
   ·cases b with
    | true =>
     have := hav id o
     simp only [zc1, Prod.mk.injEq] at this
     rw [← this.1]
     exact kn_bad
    | false =>
     have : c = .val none z := by
      have h1 := hav id o
      unfold zc1 at h1
      split at h1
      ·rename_i h; simp at h
      ·rename_i h
       simp only [Prod.mk.injEq] at h
       obtain ⟨rfl, rfl, _⟩ := h
       split at h1
       ·exact absurd ⟨rfl, rfl⟩ hz
       ·simp only [Prod.mk.injEq] at h1; exact h1.1.symm
     rw [this]
     exact kn_val0
   ·exact b1 c hc
end
end Go.Ab
set_option linter.unusedVariables false
set_option linter.unusedSimpArgs false
namespace Go.Ab
open Go.RowKit
def FO.soft : FO → Bool
 | .box _ | .alloc _ | .bld _ _ | .nilrow _ | .nilof _ _ | .mks _ _ _ _ _ | .bslp _ _ | .mkm | .bsle _ | .app0 _ _ _ _ => true
 | _ => false
def FO.rd : FO → List Nat
 | .box x | .nilof x _ => rdX x
 | .alloc _ | .nilrow _ => []
 | .bld _ ps => ps.flatMap fun p => rdX p.2.2
 | .mks _ _ _ l c => rdX l ++ rdX c
 | .bsl _ xs => rdXs xs
 | .bslp _ xs => rdXs xs
 | .app x y _ _ _ => rdX x ++ rdX y
 | .st x v _ => rdX x ++ rdX v
 | .clr x _ _ => rdX x
 | .mkm => []
 | .mpu _ x k v => rdX x ++ (rdX k ++ rdX v)
 | .men _ x k _ => rdX x ++ rdX k
 | .mes x t v => rdX x ++ (rdX t ++ rdX v)
 | .bsle _ => []
 | .app0 x y _ _ => rdX x ++ rdX y
def AO.soft : AO → Bool
 | .f m => m.soft
 | .p k _ => !k
 | .call k _ _ => !k
 | _ => true
def AO.rd : AO → List Nat
 | .p _ m => m.rd
 | .f m => m.rd
 | .call _ _ xs => rdXs xs
 | .callv g xs => rdX g ++ rdXs xs
def MI.rd (m : MI) : List Nat := (match m.gd with
 | some (d, _) => [d]
 | none => []) ++ m.op.rd
section
variable {P : Program} {s s' : St}
theorem kn_get {c : AV} {cs : List AV} {o : Objs} (h : ∀ c ∈ cs, Kn o c) {j : Nat} (hj : cs[j]? = some c) : Kn o c := h c (List.mem_of_getElem? hj)
theorem kn_src {src : Option Nat} {c : AV} (hc : Kn s.objs c) {v u : V} (hv : s.view c = some (src, v)) : Kn s.objs (.val src u) := by
 cases src with
 | none => exact kn_val0
 | some r =>
  refine kn_val1 ?_
  unfold St.view at hv
  split at hv
  ·simp at hv
  ·split at hv
   ·rename_i r' v' hl
    simp only [Option.some.injEq, Prod.mk.injEq] at hv
    obtain ⟨rfl, _⟩ := hv
    intro hn
    rw [hn] at hl
    cases hl
   ·cases hv
  ·cases hv
theorem kn_mk {src : Option Nat} {c : AV} (hc : Kn s.objs c) {v u : V} (hv : s.view c = some (src, v)) : Kn s.objs (mk src u) := by
 unfold mk
 split
 ·exact kn_val0
 ·exact kn_src hc hv
theorem kn_mkr {r : Nat} {u : V} (h : s.objs r ≠ none) : Kn s.objs (mk (some r) u) := by
 unfold mk
 split
 ·exact kn_val0
 ·exact kn_val1 h
theorem ev_kn (hk : KnSt s) {m : MO} {av : AV} (h : ev s m = some av) : Kn s.objs av := by
 cases m <;> simp only [ev] at h
 case mv x => simp only [Option.some.injEq] at h; subst h; exact get_kn hk x
 case pick c a b =>
  split at h
  ·simp only [Option.some.injEq] at h; subst h
   split <;> exact get_kn hk _
  ·cases h
 case nck x =>
  have hx := get_kn hk x
  split at h
  ·rename_i hq
   rw [hq] at hx
   split at h
   ·simp only [Option.some.injEq] at h; subst h; exact hx
   ·cases h
  ·rename_i hq
   rw [hq] at hx
   simp only [Option.some.injEq] at h; subst h; exact hx
  ·split at h
   ·rename_i hv
    simp only [Option.some.injEq] at h; subst h
    exact kn_src hx hv
   ·rename_i hv
    simp only [Option.some.injEq] at h; subst h
    exact kn_src hx hv
   ·cases h
 case bin op x y =>
  split at h
  ·obtain ⟨r, _, rfl⟩ := Option.map_eq_some_iff.1 h; exact kn_val0
  ·cases h
 case bnb n x y =>
  split at h
  ·simp only [Option.some.injEq] at h; subst h; exact kn_val0
  ·cases h
 case eqs n ks x y =>
  split at h
  ·split at h
   ·simp only [Option.some.injEq] at h; subst h; exact kn_val0
   ·cases h
  ·cases h
 case not x =>
  split at h
  ·simp only [Option.some.injEq] at h; subst h; exact kn_val0
  ·cases h
 case neg x =>
  split at h
  ·simp only [Option.some.injEq] at h; subst h; exact kn_val0
  ·cases h
 case conv k x =>
  split at h
  ·simp only [Option.some.injEq] at h; subst h; exact kn_val0
  ·cases h
 case cvs x =>
  split at h
  ·simp only [Option.some.injEq] at h; subst h; exact kn_val0
  ·cases h
 case bts x =>
  split at h
  ·split at h
   ·split at h
    ·split at h
     ·simp only [Option.some.injEq] at h; subst h; exact kn_val0
     ·cases h
    ·cases h
   ·cases h
  ·split at h
   ·split at h
    ·split at h
     ·simp only [Option.some.injEq] at h; subst h; exact kn_val0
     ·cases h
    ·cases h
   ·cases h
 case fad x f =>
  have hx := get_kn hk x
  split at h
  ·rename_i hq
   rw [hq] at hx
   split at h
   ·simp only [Option.some.injEq] at h; subst h; exact kn_ptr (hx _ .ptr)
   ·cases h
  ·split at h
   ·rename_i hv
    simp only [Option.some.injEq] at h; subst h
    exact kn_src hx hv
   ·cases h
 case fld x f n ag =>
  have hx := get_kn hk x
  split at h
  ·rename_i cs hq
   rw [hq] at hx
   have hcs : ∀ c ∈ cs, Kn s.objs c := fun c hc q hm => hx q (.agg hc hm)
   split at h
   ·split at h
    ·simp only [Option.some.injEq] at h; subst h
     exact kn_agg (fun c hc => hcs c (List.mem_of_mem_drop (List.mem_of_mem_take hc)))
    ·cases h
   ·exact kn_get hcs h
  ·split at h
   ·rename_i hv
    obtain ⟨u, _, rfl⟩ := Option.map_eq_some_iff.1 h
    exact kn_mk hx hv
   ·cases h
 case iad x i sz =>
  have hx := get_kn hk x
  split at h
  ·cases h
  ·split at h
   ·split at h
    ·rename_i hq
     rw [hq] at hx
     split at h
     ·split at h
      ·simp only [Option.some.injEq] at h; subst h; exact kn_ptr (hx _ .sl)
      ·cases h
     ·cases h
    ·split at h
     ·rename_i hv
      split at h
      ·split at h
       ·simp only [Option.some.injEq] at h; subst h; exact kn_src hx hv
       ·cases h
      ·cases h
     ·cases h
   ·cases h
 case ixs x i =>
  split at h
  ·split at h
   ·split at h
    ·simp only [Option.some.injEq] at h; subst h; exact kn_val0
    ·cases h
   ·cases h
  ·cases h
 case ixa x i l sz ag =>
  have hx := get_kn hk x
  split at h
  ·cases h
  ·split at h
   ·split at h
    ·rename_i cs hq
     rw [hq] at hx
     have hcs : ∀ c ∈ cs, Kn s.objs c := fun c hc q hm => hx q (.agg hc hm)
     split at h
     ·split at h
      ·simp only [Option.some.injEq] at h; subst h
       exact kn_agg (fun c hc => hcs c (List.mem_of_mem_drop (List.mem_of_mem_take hc)))
      ·cases h
     ·exact kn_get hcs h
    ·split at h
     ·rename_i hv
      obtain ⟨u, _, rfl⟩ := Option.map_eq_some_iff.1 h
      exact kn_mk hx hv
     ·cases h
   ·cases h
 case ld x n ag =>
  have hx := get_kn hk x
  split at h
  ·rename_i r i f hq
   rw [hq] at hx
   split at h
   ·split at h
    ·obtain ⟨u, _, rfl⟩ := Option.map_eq_some_iff.1 h
     exact kn_mkr (hx _ .ptr)
    ·cases h
   ·rename_i cs ho
    have hcs := hk.box r cs ho
    split at h
    ·split at h
     ·simp only [Option.some.injEq] at h; subst h
      exact kn_agg (fun c hc => hcs c (List.mem_of_mem_drop (List.mem_of_mem_take hc)))
     ·cases h
    ·exact kn_get hcs h
   ·cases h
  ·split at h
   ·rename_i hv
    obtain ⟨u, _, rfl⟩ := Option.map_eq_some_iff.1 h
    exact kn_mk hx hv
   ·cases h
 case slc3 x lo hi mx sz =>
  split at h
  ·split at h
   ·split at h
    ·split at h
     ·simp only [Option.some.injEq] at h; subst h; exact kn_bad
     ·cases h
    ·cases h
   ·cases h
  ·cases h
 case slc x lo hi sz =>
  have hx := get_kn hk x
  split at h
  ·rename_i hq
   rw [hq] at hx
   split at h
   ·split at h
    ·split at h
     ·simp only [Option.some.injEq] at h; subst h; exact kn_sl (hx _ .sl)
     ·cases h
    ·cases h
   ·cases h
  ·split at h
   ·rename_i hv
    split at h
    ·split at h
     ·simp only [Option.some.injEq] at h; subst h; exact kn_src hx hv
     ·cases h
    ·cases h
   ·cases h
 case slcs x lo hi =>
  split at h
  ·split at h
   ·split at h
    ·simp only [Option.some.injEq] at h; subst h; exact kn_val0
    ·cases h
   ·cases h
  ·cases h
 case ext x j =>
  have hx := get_kn hk x
  split at h
  ·rename_i cs hq
   rw [hq] at hx
   exact kn_get (fun c hc q hm => hx q (.tup hc hm)) h
  ·cases h
 case len x =>
  split at h
  ·split at h
   ·simp only [Option.some.injEq] at h; subst h; exact kn_val0
   ·cases h
  ·split at h
   ·simp only [Option.some.injEq] at h; subst h; exact kn_val0
   ·cases h
 case isn neg x =>
  split at h
  ·split at h
   ·simp only [Option.some.injEq] at h; subst h; split
    ·exact kn_ub
    ·exact kn_val0
   ·cases h
  ·split at h
   ·simp only [Option.some.injEq] at h; subst h; split
    ·exact kn_ub
    ·exact kn_val0
   ·cases h
 case lens x =>
  split at h
  ·simp only [Option.some.injEq] at h; subst h; exact kn_val0
  ·cases h
 case mnx mx x y =>
  split at h
  ·simp only [Option.some.injEq] at h; subst h; exact kn_val0
  ·cases h
 case mkf f caps =>
  simp only [Option.some.injEq] at h; subst h
  exact kn_fn (fun c hc => by obtain ⟨x, _, rfl⟩ := List.mem_map.1 hc; exact get_kn hk x)
 case mlk kd x k z ok =>
  have two : ∀ (a b : V), Kn s.objs (.tup [.val none a, .val none b]) := fun a b => kn_tup (fun c hc => by
   rcases List.mem_cons.1 hc with rfl | hc
   ·exact kn_val0
   ·rw [List.mem_singleton.1 hc]; exact kn_val0)
  split at h
  ·split at h
   ·simp only [Option.some.injEq] at h; subst h
    split
    ·exact two _ _
    ·exact kn_val0
   ·simp only [Option.some.injEq] at h; subst h
    split
    ·exact two _ _
    ·exact kn_val0
   ·cases h
  ·cases h
theorem kn_over {o G : Objs} {c : AV} (h : Kn o c) : Kn (over o G) c := by
 intro r hr
 simp only [over]
 cases G r with
 | some x => simp
 | none => exact h r hr
theorem cellsAV_kn (hk : KnSt s) {c : AV} (hc : Kn s.objs c) {cs : List AV} (h : cellsAV s c = some cs) : ∀ c ∈ cs, Kn s.objs c := by
 unfold cellsAV at h
 split at h
 ·simp only [Option.some.injEq] at h; subst h
  exact fun c hm q hq => hc q (.agg hm hq)
 ·simp only [Option.some.injEq] at h; subst h
  intro c hm; rw [List.mem_singleton] at hm; subst hm; exact hc
 ·split at h
  ·simp only [Option.some.injEq] at h; subst h
   intro c hm; rw [List.mem_singleton] at hm; subst hm; exact hc
  ·cases h
 ·split at h
  ·simp only [Option.some.injEq] at h; subst h
   intro c hm; rw [List.mem_singleton] at hm; subst hm; exact hc
  ·cases h
 ·split at h
  ·simp only [Option.some.injEq] at h; subst h
   intro c hm; rw [List.mem_singleton] at hm; subst hm; exact hc
  ·cases h
 ·split at h
  ·rename_i hv
   simp only [Option.some.injEq] at h; subst h
   intro c hm
   obtain ⟨u, _, rfl⟩ := List.mem_map.1 hm
   exact kn_mk hc hv
  ·rename_i hv
   simp only [Option.some.injEq] at h; subst h
   intro c hm; rw [List.mem_singleton] at hm; subst hm
   exact kn_mk hc hv
  ·cases h
 ·cases h
theorem plV_kn {r : RV} {id : Nat} {o : Objs} (hf : r.fits = true) : (∀ q, live (o q) = true ∨ True) → Kn (plV id o r).2 (plV id o r).1 ∧ ∀ q cs, (plV id o r).2 q = some (.box cs) → o q = some (.box cs) := by
 intro _
 have k1 : ∀ (r : R1) (id : Nat) (o : Objs), Kn (pl1 id o r).2 (pl1 id o r).1 ∧ (∀ q, o q ≠ none → (pl1 id o r).2 q ≠ none) ∧ ∀ q cs, (pl1 id o r).2 q = some (.box cs) → o q = some (.box cs) := by
  intro r id o
  cases r with
  | val v => exact ⟨kn_val0, fun q h => h, fun q cs h => h⟩
  | row own sz L =>
   refine ⟨kn_sl (by simp [pl1, upd_same]), fun q h => ?_, fun q cs h => ?_⟩
   ·simp only [pl1]
    by_cases e : q = id
    ·subst e; simp [upd_same]
    ·rw [upd_ne e]; exact h
   ·simp only [pl1] at h
    by_cases e : q = id
    ·subst e; rw [upd_same] at h; cases h
    ·rw [upd_ne e] at h; exact h
 have up : ∀ {o o' : Objs} {c : AV}, (∀ q, o q ≠ none → o' q ≠ none) → Kn o c → Kn o' c := fun h hk r hr => h r (hk r hr)
 have k1L : ∀ (rs : List R1) (id : Nat) (o : Objs), (∀ c ∈ (pl1L id o rs).1, Kn (pl1L id o rs).2 c) ∧ (∀ q, o q ≠ none → (pl1L id o rs).2 q ≠ none) ∧ ∀ q cs, (pl1L id o rs).2 q = some (.box cs) → o q = some (.box cs) := by
  intro rs
  induction rs with
  | nil => intro id o; exact ⟨by simp [pl1L], fun q h => h, fun q cs h => h⟩
  | cons r rs ih =>
   intro id o
   obtain ⟨a1, a2, a3⟩ := k1 r id o
   obtain ⟨b1, b2, b3⟩ := ih (id + 1) (pl1 id o r).2
   refine ⟨?_, fun q h => b2 q (a2 q h), fun q cs h => a3 q cs (b3 q cs h)⟩
   intro c hc
   simp only [pl1L] at hc ⊢
   rcases List.mem_cons.1 hc with rfl | hc
   ·exact up b2 a1
   ·exact b1 c hc
 have k2 : ∀ (r : R2) (id : Nat) (o : Objs), Kn (pl2 id o r).2 (pl2 id o r).1 ∧ (∀ q, o q ≠ none → (pl2 id o r).2 q ≠ none) ∧ ∀ q cs, (pl2 id o r).2 q = some (.box cs) → o q = some (.box cs) := by
  intro r id o
  cases r with
  | one r => exact k1 r id o
  | agg rs =>
   obtain ⟨a1, a2, a3⟩ := k1L rs id o
   exact ⟨kn_agg a1, a2, a3⟩
 have k2L : ∀ (rs : List R2) (id : Nat) (o : Objs), (∀ c ∈ (pl2L id o rs).1, Kn (pl2L id o rs).2 c) ∧ (∀ q, o q ≠ none → (pl2L id o rs).2 q ≠ none) ∧ ∀ q cs, (pl2L id o rs).2 q = some (.box cs) → o q = some (.box cs) := by
  intro rs
  induction rs with
  | nil => intro id o; exact ⟨by simp [pl2L], fun q h => h, fun q cs h => h⟩
  | cons r rs ih =>
   intro id o
   obtain ⟨a1, a2, a3⟩ := k2 r id o
   obtain ⟨b1, b2, b3⟩ := ih (id + 16) (pl2 id o r).2
   refine ⟨?_, fun q h => b2 q (a2 q h), fun q cs h => a3 q cs (b3 q cs h)⟩
   intro c hc
   simp only [pl2L] at hc ⊢
   rcases List.mem_cons.1 hc with rfl | hc
   ·exact up b2 a1
   ·exact b1 c hc
 cases r with
 | one r => exact ⟨(k2 r id o).1, (k2 r id o).2.2⟩
 | tup rs => exact ⟨kn_tup (k2L rs id o).1, (k2L rs id o).2.2⟩
end
end Go.Ab
set_option linter.unusedVariables false
set_option linter.unusedSimpArgs false
namespace Go.Ab
open Go.RowKit
section
variable {P : Program} {N : Fr} {w0 : Base} {D0 : BSet} {E : Env} {st : St} {a : Act} {w : World} {s : St}
theorem fillB_agr {s s' : St} (ha : Agr s s') (hk : KnSt s) : ∀ (ps : List (Nat × Nat × X)) (cs : List AV) (ht : ∀ t ∈ (ps.flatMap fun p => rdX p.2.2), s'.tmps t = s.tmps t), fillB s' ps cs = fillB s ps cs
 | [], cs, _ => rfl
 | (off, n, x) :: ps, cs, ht => by
  simp only [List.flatMap_cons, List.mem_append] at ht
  simp only [fillB]
  rw [get_agr (fun t h => ht t (.inl h)), cellsAV_agr ha (get_kn hk x)]
  split
  ·split
   ·exact fillB_agr ha hk ps _ (fun t h => ht t (.inr h))
   ·rfl
  ·rfl
theorem fillB_kn {s : St} {G : Objs} (hk : KnSt s) : ∀ (ps : List (Nat × Nat × X)) (cs : List AV) {cs' : List AV} (h : ∀ c ∈ cs, Kn (over s.objs G) c), fillB s ps cs = some cs' → ∀ c ∈ cs', Kn (over s.objs G) c
 | [], cs, cs', h, he => by
  simp only [fillB, Option.some.injEq] at he; subst he; exact h
 | (off, n, x) :: ps, cs, cs', h, he => by
  simp only [fillB] at he
  split at he
  ·rename_i us hus
   split at he
   ·refine fillB_kn hk ps _ ?_ he
    intro c hc
    simp only [List.mem_append] at hc
    rcases hc with (hc | hc) | hc
    ·exact h c (List.mem_of_mem_take hc)
    ·exact kn_over (cellsAV_kn hk (get_kn hk x) hus c hc)
    ·exact h c (List.mem_of_mem_drop hc)
   ·cases he
  ·cases he
theorem srcOf_f {r sz : Nat} {o o' : Objs} {y : AV} {L : List V} {f : Bool} {o2 : Objs} (h : ∀ q, Ment y q → o' q = o q) (hs : srcOf r o sz false y = some (L, f, o2)) : o2 = o ∧ srcOf r o' sz false y = some (L, f, o') := by
 unfold srcOf at hs ⊢
 split at hs
 ·rename_i r2 off len
  have e := h r2 .sl
  split at hs
  ·rename_i own2 sz2 L2 hr
   split at hs
   ·cases hs
   ·rename_i hn
    simp only [Bool.false_eq_true, if_false] at hs
    split at hs
    ·rename_i hp
     simp only [Option.some.injEq, Prod.mk.injEq] at hs
     obtain ⟨rfl, rfl, rfl⟩ := hs
     refine ⟨rfl, ?_⟩
     simp only [e, hr, hn, if_false, Bool.false_eq_true, hp, if_true]
    ·cases hs
  ·cases hs
 ·split at hs
  ·split at hs
   ·cases hs
   ·rename_i hn
    simp only [Option.some.injEq, Prod.mk.injEq] at hs
    obtain ⟨rfl, rfl, rfl⟩ := hs
    exact ⟨rfl, by simp only [hn, if_false]⟩
  ·cases hs
 ·rename_i q v
  have e := h q .val
  split at hs
  ·split at hs
   ·cases hs
   ·rename_i hn
    simp only [Option.some.injEq, Prod.mk.injEq] at hs
    obtain ⟨rfl, rfl, rfl⟩ := hs
    exact ⟨rfl, by simp only [e, hn, if_false]⟩
  ·cases hs
 ·cases hs
theorem soft_o (hk : KnSt s) {s0 : St} (ha : Agr s s0) {id : Nat} {m : AO} (hs : m.soft = true) (ht : ∀ t ∈ m.rd, s0.tmps t = s.tmps t) {av : AV} {ob : Objs} (h : StepO P s0 id m av ob) :
  ∃ G, Slot id G ∧ ob = over s0.objs G ∧ (∀ s2 : St, Agr s s2 → (∀ t ∈ m.rd, s2.tmps t = s.tmps t) → StepO P s2 id m av (over s2.objs G)) ∧ Kn (over s.objs G) av ∧ (∀ q cs, G q = some (.box cs) → ∀ c ∈ cs, Kn (over s.objs G) c) := by
 have e0 : ∀ G : Objs, over (fun _ => none) G = G := by intro G; funext q; simp only [over]; cases G q <;> rfl
 have slot1 : ∀ (id : Nat) (r : Root), Slot id (upd (fun _ => none) id (some r)) := by
  intro id r q hq
  by_cases e : q = id
  ·omega
  ·rw [upd_ne e] at hq; exact absurd rfl hq
 cases m with
 | p m =>
  obtain ⟨h1, rfl⟩ := h
  rw [ev_agr ha hk ht] at h1
  refine ⟨fun _ => none, fun q hq => absurd rfl hq, rfl, fun s2 ha2 ht2 => ⟨by rw [ev_agr ha2 hk ht2]; exact h1, rfl⟩, ev_kn hk h1, fun q cs h => by cases h⟩
 | f m =>
  cases m <;> simp only [AO.soft, FO.soft] at hs <;> try (cases hs; done)
  case box x =>
   simp only [StepO, eff] at h
   simp only [AO.rd, FO.rd] at ht
   split at h
   ·rename_i cs hcs
    simp only [Option.some.injEq, Prod.mk.injEq] at h
    obtain ⟨rfl, rfl⟩ := h
    rw [get_agr ht, cellsAV_agr ha (get_kn hk x)] at hcs
    have hkn := cellsAV_kn hk (get_kn hk x) hcs
    refine ⟨upd (fun _ => none) id (some (.box cs)), slot1 _ _, over_upd0 _ _ _, fun s2 ha2 ht2 => ?_, kn_ptr (by simp [over, upd_same]), ?_⟩
    ·simp only [AO.rd, FO.rd] at ht2
     simp only [StepO, eff]
     rw [get_agr ht2, cellsAV_agr ha2 (get_kn hk x), hcs]
     simp only
     rw [over_upd0 s2.objs]
    ·intro q cs' h c hc
     by_cases e : q = id
     ·subst e
      rw [upd_same] at h
      simp only [Option.some.injEq, Root.box.injEq] at h
      subst h
      exact kn_over (hkn c hc)
     ·rw [upd_ne e] at h; cases h
   ·cases h
  case alloc zs =>
   simp only [StepO, eff] at h
   split at h
   ·rename_i hlen
    simp only [Option.some.injEq, Prod.mk.injEq] at h
    obtain ⟨rfl, rfl⟩ := h
    obtain ⟨avs, G, hG⟩ := zcells_over zs (id + 1)
    have hz : ∀ o : Objs, zcells (id + 1) o zs = (avs, over o G) := by
     intro o
     have := (hG o (fun _ => none)).1
     rw [e0] at this
     exact this
    have hGs : ∀ q, G q ≠ none → id + 1 ≤ q ∧ q < id + 1 + zs.length := fun q hq => (hG (fun _ => none) (fun _ => none)).2 q hq
    have hkz0 := zcells_kn zs (id + 1) s.objs
    rw [hz] at hkz0
    refine ⟨upd G id (some (.box avs)), ?_, ?_, fun s2 _ _ => ?_, kn_ptr (by simp [over, upd_same]), ?_⟩
    ·intro q hq
     by_cases e : q = id
     ·omega
     ·rw [upd_ne e] at hq
      have := hGs q hq
      omega
    ·rw [hz]; simp only; rw [over_upd]
    ·simp only [StepO, eff, hlen, if_true, hz, over_upd]
    ·intro q cs h c hc
     have up : Kn (over s.objs G) c → Kn (over s.objs (upd G id (some (.box avs)))) c := by
      intro hk0 r hr
      rw [← over_upd]
      by_cases e : r = id
      ·subst e; simp [upd_same]
      ·rw [upd_ne e]; exact hk0 r hr
     by_cases e : q = id
     ·subst e
      rw [upd_same] at h
      simp only [Option.some.injEq, Root.box.injEq] at h
      subst h
      exact up (hkz0.1 c hc)
     ·rw [upd_ne e] at h
      have h' : over s.objs G q = some (.box cs) := by simp [over, h]
      exact up (kn_over (hk.box q cs (hkz0.2.2 q cs h') c hc))
   ·cases h
  case bld zs ps =>
   simp only [StepO, eff] at h
   split at h
   ·rename_i hlen
    obtain ⟨avs, G, hG⟩ := zcells_over zs id
    have hz : ∀ o : Objs, zcells id o zs = (avs, over o G) := by
     intro o
     have := (hG o (fun _ => none)).1
     rw [e0] at this
     exact this
    have hGs : ∀ q, G q ≠ none → id ≤ q ∧ q < id + zs.length := fun q hq => (hG (fun _ => none) (fun _ => none)).2 q hq
    have hkz0 := zcells_kn zs id s.objs
    rw [hz] at h hkz0
    split at h
    ·rename_i cs hcs
     simp only [Option.some.injEq, Prod.mk.injEq] at h
     obtain ⟨rfl, rfl⟩ := h
     simp only [AO.rd, FO.rd] at ht
     rw [fillB_agr ha hk ps avs ht] at hcs
     refine ⟨G, ?_, rfl, fun s2 ha2 ht2 => ?_, kn_agg (fillB_kn hk ps avs (fun c hc => hkz0.1 c hc) hcs), ?_⟩
     ·intro q hq
      have := hGs q hq
      omega
     ·simp only [AO.rd, FO.rd] at ht2
      simp only [StepO, eff, hlen, if_true, hz, fillB_agr ha2 hk ps avs ht2, hcs]
     ·intro q cs h c hc
      have h' : over s.objs G q = some (.box cs) := by simp [over, h]
      exact kn_over (hk.box q cs (hkz0.2.2 q cs h') c hc)
    ·cases h
   ·cases h
  case nilrow sz =>
   simp only [StepO, eff, Option.some.injEq, Prod.mk.injEq] at h
   obtain ⟨rfl, rfl⟩ := h
   refine ⟨upd (fun _ => none) id (some (.row true sz [])), slot1 _ _, over_upd0 _ _ _, fun s2 _ _ => ?_, kn_sl (by simp [over, upd_same]), ?_⟩
   ·simp only [StepO, eff]
    rw [over_upd0 s2.objs]
   ·intro q cs h
    by_cases e : q = id
    ·subst e; rw [upd_same] at h; cases h
    ·rw [upd_ne e] at h; cases h
  case mkm =>
   simp only [StepO, eff, Option.some.injEq, Prod.mk.injEq] at h
   obtain ⟨rfl, rfl⟩ := h
   refine ⟨upd (fun _ => none) id (some (.map [])), slot1 _ _, over_upd0 _ _ _, fun s2 _ _ => ?_, kn_mp (by simp [over, upd_same]), ?_⟩
   ·simp only [StepO, eff]
    rw [over_upd0 s2.objs]
   ·intro q cs h
    by_cases e : q = id
    ·subst e; rw [upd_same] at h; cases h
    ·rw [upd_ne e] at h; cases h
  case bsle sz =>
   simp only [StepO, eff, Option.some.injEq, Prod.mk.injEq] at h
   obtain ⟨rfl, rfl⟩ := h
   exact ⟨fun _ => none, fun q hq => absurd rfl hq, rfl, fun s2 _ _ => rfl, kn_e0, fun q cs h => by cases h⟩
  case app0 x y sz by_ =>
   simp only [AO.rd, FO.rd] at ht
   simp only [StepO, eff] at h
   rw [get_agr (x := x) (fun t h => ht t (by simp [h])), get_agr (x := y) (fun t h => ht t (by simp [h]))] at h
   split at h
   ·rename_i hx
    have hky := get_kn hk y
    unfold appTo at h
    split at h
    ·rename_i news fl o2 hs
     split at h
     ·rename_i hroom
      simp only [Option.some.injEq, Prod.mk.injEq] at h
      obtain ⟨rfl, rfl⟩ := h
      have hag : ∀ s2 : St, Agr s s2 → ∀ q, Ment (s.get y) q → upd s2.objs (id + 1) (some (.row true sz [])) q = upd s0.objs (id + 1) (some (.row true sz [])) q := by
       intro s2 ha2 q hq
       by_cases e : q = id + 1
       ·rw [e, upd_same, upd_same]
       ·rw [upd_ne e, upd_ne e, ha2 q (hky q hq), ha q (hky q hq)]
      have hov : ∀ o : Objs, upd (upd (upd o (id + 1) (some (.row true sz []))) (id + 1) (some .dead)) id (some (.row (true && fl) sz (([] : List V).drop 0 |>.take 0 |>.append news))) = over o (upd (upd (fun _ => none) (id + 1) (some .dead)) id (some (.row (true && fl) sz (([] : List V).drop 0 |>.take 0 |>.append news)))) := by
       intro o
       funext q
       by_cases e1 : q = id
       ·subst e1; simp [upd_same, over]
       ·by_cases e2 : q = id + 1
        ·subst e2; simp [upd_same, upd_ne e1, over]
        ·simp [upd_ne e1, upd_ne e2, over]
      refine ⟨upd (upd (fun _ => none) (id + 1) (some .dead)) id (some (.row (true && fl) sz (([] : List V).drop 0 |>.take 0 |>.append news))), ?_, ?_, fun s2 ha2 ht2 => ?_, kn_sl (by simp [over, upd_same]), ?_⟩
      ·intro q hq
       by_cases e1 : q = id
       ·omega
       ·by_cases e2 : q = id + 1
        ·omega
        ·rw [upd_ne e1, upd_ne e2] at hq; exact absurd rfl hq
      ·rw [(srcOf_f (fun q _ => rfl) hs).1]; exact hov s0.objs
      ·simp only [AO.rd, FO.rd] at ht2
       simp only [StepO, eff]
       rw [get_agr (x := x) (fun t h => ht2 t (by simp [h])), get_agr (x := y) (fun t h => ht2 t (by simp [h])), hx]
       simp only [appTo, (srcOf_f (hag s2 ha2) hs).2, hroom, and_self, if_true]
       rw [← hov s2.objs]
       rfl
      ·intro q cs hq
       by_cases e1 : q = id
       ·subst e1; rw [upd_same] at hq; cases hq
       ·by_cases e2 : q = id + 1
        ·subst e2; rw [upd_ne e1, upd_same] at hq; cases hq
        ·rw [upd_ne e1, upd_ne e2] at hq; cases hq
     ·cases h
    ·cases h
   ·cases h
  case nilof x sz =>
   simp only [AO.rd, FO.rd] at ht
   have hkx := get_kn hk x
   have key : ∀ s2 : St, Agr s s2 → (∀ t ∈ rdX x, s2.tmps t = s.tmps t) → ((eff s2 id (.nilof x sz)).map (·.1) = (eff s id (.nilof x sz)).map (·.1)) ∧ ∀ p, eff s2 id (.nilof x sz) = some p → p = (.sl id 0 0, upd s2.objs id (some (.row true sz []))) := by
    intro s2 ha2 ht2
    simp only [eff]
    rw [get_agr ht2]
    generalize s.get x = c at hkx
    cases c with
    | sl r off len =>
     simp only
     rw [sl_agr ha2 hkx]
     constructor
     ·split <;> rfl
     ·intro p hp
      split at hp
      ·simp only [Option.some.injEq] at hp; exact hp.symm
      ·cases hp
    | _ =>
     simp only [view_agr ha2 hkx]
     constructor
     ·split <;> rfl
     ·intro p hp
      split at hp
      ·simp only [Option.some.injEq] at hp; exact hp.symm
      ·cases hp
   simp only [StepO] at h
   obtain ⟨k1, k2⟩ := key s0 ha ht
   have := k2 _ h
   simp only [Prod.mk.injEq] at this
   obtain ⟨rfl, rfl⟩ := this
   refine ⟨upd (fun _ => none) id (some (.row true sz [])), slot1 _ _, over_upd0 _ _ _, fun s2 ha2 ht2 => ?_, kn_sl (by simp [over, upd_same]), ?_⟩
   ·simp only [StepO]
    obtain ⟨j1, j2⟩ := key s2 ha2 ht2
    rw [h] at k1
    rw [← k1] at j1
    cases hq : eff s2 id (.nilof x sz) with
    | none => rw [hq] at j1; simp at j1
    | some p => rw [j2 p hq, over_upd0 s2.objs]
   ·intro q cs h
    by_cases e : q = id
    ·subst e; rw [upd_same] at h; cases h
    ·rw [upd_ne e] at h; cases h
  case bslp sz xs =>
   simp only [AO.rd, FO.rd] at ht
   simp only [StepO, eff] at h
   rw [gets_agr ht] at h
   split at h
   ·rename_i L fl hL
    split at h
    ·rename_i hcond
     simp only [Option.some.injEq, Prod.mk.injEq] at h
     obtain ⟨rfl, rfl⟩ := h
     refine ⟨upd (fun _ => none) id (some (.row fl sz L)), slot1 _ _, over_upd0 _ _ _, fun s2 ha2 ht2 => ?_, kn_sl (by simp [over, upd_same]), ?_⟩
     ·simp only [AO.rd, FO.rd] at ht2
      simp only [StepO, eff]
      rw [gets_agr ht2, hL]
      simp only [hcond, if_true]
      rw [over_upd0 s2.objs]
     ·intro q cs h
      by_cases e : q = id
      ·subst e; rw [upd_same] at h; cases h
      ·rw [upd_ne e] at h; cases h
    ·cases h
   ·cases h
  case mks sz bytes z l c =>
   simp only [AO.rd, FO.rd] at ht
   simp only [StepO, eff] at h
   rw [get_agr (x := l) (fun t h => ht t (by simp [h])), get_agr (x := c) (fun t h => ht t (by simp [h])), view_agr ha (get_kn hk l), view_agr ha (get_kn hk c)] at h
   split at h
   ·rename_i ln cn h1 h2
    split at h
    ·rename_i hcond
     simp only [Option.some.injEq, Prod.mk.injEq] at h
     obtain ⟨rfl, rfl⟩ := h
     refine ⟨upd (fun _ => none) id (some (.row true sz (List.replicate ln.toNat z))), slot1 _ _, over_upd0 _ _ _, fun s2 ha2 ht2 => ?_, kn_sl (by simp [over, upd_same]), ?_⟩
     ·simp only [AO.rd, FO.rd] at ht2
      simp only [StepO, eff]
      rw [get_agr (x := l) (fun t h => ht2 t (by simp [h])), get_agr (x := c) (fun t h => ht2 t (by simp [h])), view_agr ha2 (get_kn hk l), view_agr ha2 (get_kn hk c), h1, h2]
      simp only [hcond, and_self, if_true]
      rw [over_upd0 s2.objs]
     ·intro q cs h
      by_cases e : q = id
      ·subst e; rw [upd_same] at h; cases h
      ·rw [upd_ne e] at h; cases h
    ·cases h
   ·cases h
 | call f xs =>
  simp only [AO.rd] at ht
  obtain ⟨ln, Vs, res, hok, hsn, hcon, hfit, hcl, rfl, rfl⟩ := h
  rw [gets_agr ht, trav_congr (fun c hc => by obtain ⟨x, _, rfl⟩ := List.mem_map.1 hc; exact snap_agr ha hk 8 (get_kn hk x))] at hsn
  obtain ⟨av, G, hG, hpl⟩ := plV_over res id hfit
  have hkn := plV_kn (id := id) (o := s.objs) hfit (fun _ => .inr trivial)
  rw [hpl] at hkn
  refine ⟨G, hG, by rw [hpl], fun s2 ha2 ht2 => ?_, by rw [hpl]; exact hkn.1, ?_⟩
  ·simp only [AO.rd] at ht2
   refine ⟨ln, Vs, res, hok, ?_, hcon, hfit, hcl, by rw [hpl, hpl], by rw [hpl]⟩
   rw [gets_agr ht2, trav_congr (fun c hc => by obtain ⟨x, _, rfl⟩ := List.mem_map.1 hc; exact snap_agr ha2 hk 8 (get_kn hk x))]
   exact hsn
  ·intro q cs h c hc
   exact kn_over (hk.box q cs (hkn.2 q cs (by simp [over, h])) c hc)
 | callv g xs =>
  simp only [AO.rd] at ht
  obtain ⟨f, caps, hfn, ln, Vs, res, hok, hsn, hcon, hfit, hcl, rfl, rfl⟩ := h
  rw [get_agr (x := g) (fun t h => ht t (by simp [h])), fnOf_agr ha (get_kn hk g)] at hfn
  have hck := fnOf_kn (get_kn hk g) hfn
  have hall : ∀ c ∈ xs.map s.get ++ caps, Kn s.objs c := by
   intro c hc
   rcases List.mem_append.1 hc with hc | hc
   ·obtain ⟨x, _, rfl⟩ := List.mem_map.1 hc; exact get_kn hk x
   ·exact hck c hc
  rw [gets_agr (xs := xs) (fun t h => ht t (by simp [h])), trav_congr (fun c hc => snap_agr ha hk 8 (hall c hc))] at hsn
  obtain ⟨av, G, hG, hpl⟩ := plV_over res id hfit
  have hkn := plV_kn (id := id) (o := s.objs) hfit (fun _ => .inr trivial)
  rw [hpl] at hkn
  refine ⟨G, hG, by rw [hpl], fun s2 ha2 ht2 => ?_, by rw [hpl]; exact hkn.1, ?_⟩
  ·simp only [AO.rd] at ht2
   refine ⟨f, caps, by rw [get_agr (x := g) (fun t h => ht2 t (by simp [h])), fnOf_agr ha2 (get_kn hk g)]; exact hfn, ln, Vs, res, hok, ?_, hcon, hfit, hcl, by rw [hpl, hpl], by rw [hpl]⟩
   rw [gets_agr (xs := xs) (fun t h => ht2 t (by simp [h])), trav_congr (fun c hc => snap_agr ha2 hk 8 (hall c hc))]
   exact hsn
  ·intro q cs h c hc
   exact kn_over (hk.box q cs (hkn.2 q cs (by simp [over, h])) c hc)
theorem wants_agr {s s' : St} {g : Option (Nat × Bool)} (h : ∀ d b, g = some (d, b) → s'.tmps d = s.tmps d) : wants s' g = wants s g := by
 cases g with
 | none => rfl
 | some p => obtain ⟨d, b⟩ := p; simp only [wants]; rw [h d b rfl]
theorem put_objs {s : St} {d : Option Nat} {av : AV} {ob : Objs} : (put s d av ob).objs = ob := by cases d <;> rfl
theorem put_tmps_ne {s : St} {d : Option Nat} {av : AV} {ob : Objs} {t : Nat} (h : d ≠ some t) : (put s d av ob).tmps t = s.tmps t := by
 cases d with
 | none => rfl
 | some d => exact upd_ne (fun e => h (by rw [e]))
theorem kn_undef {o : Objs} : Kn o .undef := kn_tup (by simp)
theorem soft_step (hk : KnSt s) {s0 : St} (ha : Agr s s0) {id : Nat} {m : MI} (hs : m.op.soft = true) (ht : ∀ t ∈ m.rd, s0.tmps t = s.tmps t) {s1 : St} (h : Step P s0 id m s1) :
  ∃ av G, Slot id G ∧ s1 = put s0 m.dst av (over s0.objs G) ∧ (∀ s2 : St, Agr s s2 → (∀ t ∈ m.rd, s2.tmps t = s.tmps t) → Step P s2 id m (put s2 m.dst av (over s2.objs G))) ∧ Kn (over s.objs G) av ∧ (∀ q cs, G q = some (.box cs) → ∀ c ∈ cs, Kn (over s.objs G) c) := by
 have hgd : ∀ (s2 : St), (∀ t ∈ m.rd, s2.tmps t = s.tmps t) → wants s2 m.gd = wants s m.gd := by
  intro s2 h2
  refine wants_agr (fun d b hd => h2 d ?_)
  simp [MI.rd, hd]
 have hop : ∀ (s2 : St), (∀ t ∈ m.rd, s2.tmps t = s.tmps t) → ∀ t ∈ m.op.rd, s2.tmps t = s.tmps t := fun s2 h2 t hm => h2 t (by simp [MI.rd, hm])
 rcases h with ⟨hw, rfl⟩ | ⟨hw, av, ob, hso, rfl⟩ | ⟨_, hx⟩
 rotate_left 2
 ·exfalso
  split at hx
  ·rename_i h; rw [h] at hs; simp [AO.soft] at hs
  ·rename_i h; rw [h] at hs; simp [AO.soft] at hs
  ·exact hx
 ·refine ⟨.undef, fun _ => none, fun q hq => absurd rfl hq, rfl, fun s2 ha2 ht2 => .inl ⟨?_, rfl⟩, kn_undef, fun q cs h => by cases h⟩
  rw [hgd s2 ht2, ← hgd s0 ht]; exact hw
 ·obtain ⟨G, hG, rfl, h2, k1, k2⟩ := soft_o hk ha hs (hop s0 ht) hso
  refine ⟨av, G, hG, rfl, fun s2 ha2 ht2 => .inr (.inl ⟨?_, av, _, h2 s2 ha2 (hop s2 ht2), rfl⟩), k1, k2⟩
  rw [hgd s2 ht2, ← hgd s0 ht]; exact hw
theorem kn_put (hk : KnSt s) {d : Option Nat} {av : AV} {G : Objs} (h1 : Kn (over s.objs G) av) (h2 : ∀ q cs, G q = some (.box cs) → ∀ c ∈ cs, Kn (over s.objs G) c) : KnSt (put s d av (over s.objs G)) := by
 refine ⟨fun t => ?_, ?_⟩
 ·rw [put_objs]
  by_cases e : d = some t
  ·subst e; simp only [put, upd_same]; exact h1
  ·rw [put_tmps_ne e]; exact kn_over (hk.tmps t)
 ·rw [put_objs]
  intro r cs ho c hc
  cases hG : G r with
  | some x =>
   have : G r = some (.box cs) := by simpa [over, hG] using ho
   exact h2 r cs this c hc
  | none =>
   simp only [over, hG] at ho
   exact kn_over (hk.box r cs ho c hc)
def FO.ap : FO → Bool
 | .app _ _ _ _ _ => true
 | .bsl _ _ => true
 | _ => false
def isMv (m : MI) : Bool := m.gd.isNone && (match m.op with
 | .p false (.mv _) => true
 | _ => false)
def isApp (m : MI) : Bool := m.gd.isNone && (match m.op with
 | .f m => m.ap
 | _ => false)
def indepD (m m' : MI) : Bool :=
 (match m.dst with
  | some d => !m'.rd.contains d && !(m'.dst == some d)
  | none => true) &&
 (match m'.dst with
  | some d => !m.rd.contains d
  | none => true)
def indep (m m' : MI) : Bool := ((m.op.soft && m'.op.soft) || ((isMv m && isApp m') || (isApp m && isMv m'))) && indepD m m'
def Mono (o ob : Objs) : Prop := (∀ q, o q ≠ none → ob q ≠ none) ∧ (∀ q cs, ob q = some (.box cs) → o q = some (.box cs))
theorem mono_refl (o : Objs) : Mono o o := ⟨fun _ h => h, fun _ _ h => h⟩
theorem mono_trans {o p q : Objs} (h : Mono o p) (h' : Mono p q) : Mono o q := ⟨fun r hr => h'.1 r (h.1 r hr), fun r cs hr => h.2 r cs (h'.2 r cs hr)⟩
theorem mono_upd (o : Objs) (r : Nat) (x : Root) (hx : ∀ cs, x ≠ .box cs) : Mono o (upd o r (some x)) := by
 refine ⟨fun q hq => ?_, fun q cs hq => ?_⟩
 ·by_cases e : q = r
  ·subst e; simp [upd_same]
  ·rw [upd_ne e]; exact hq
 ·by_cases e : q = r
  ·subst e; rw [upd_same] at hq; exact absurd (Option.some.inj hq) (hx cs)
  ·rw [upd_ne e] at hq; exact hq
theorem srcOf_mono {r sz : Nat} {o o2 : Objs} {mv : Bool} {y : AV} {L : List V} {f : Bool} (h : srcOf r o sz mv y = some (L, f, o2)) : Mono o o2 := by
 unfold srcOf at h
 split at h
 ·split at h
  ·split at h
   ·cases h
   ·split at h
    ·simp only [Option.some.injEq, Prod.mk.injEq] at h; obtain ⟨_, _, rfl⟩ := h
     exact mono_upd _ _ _ (by simp)
    ·split at h
     ·simp only [Option.some.injEq, Prod.mk.injEq] at h; obtain ⟨_, _, rfl⟩ := h; exact mono_refl _
     ·cases h
  ·cases h
 ·split at h
  ·split at h
   ·cases h
   ·simp only [Option.some.injEq, Prod.mk.injEq] at h; obtain ⟨_, _, rfl⟩ := h; exact mono_refl _
  ·cases h
 ·split at h
  ·split at h
   ·cases h
   ·simp only [Option.some.injEq, Prod.mk.injEq] at h; obtain ⟨_, _, rfl⟩ := h; exact mono_refl _
  ·cases h
 ·cases h
theorem appTo_mono {id r off len : Nat} {own : Bool} {L : List V} {o : Objs} {y : AV} {sz bytes : Nat} {mv : Bool} {av : AV} {ob : Objs} (h : appTo id r off len own L o y sz bytes mv = some (av, ob)) : Mono o ob ∧ Kn ob av := by
 unfold appTo at h
 split at h
 ·rename_i hs
  split at h
  ·simp only [Option.some.injEq, Prod.mk.injEq] at h; obtain ⟨rfl, rfl⟩ := h
   exact ⟨mono_trans (srcOf_mono hs) (mono_trans (mono_upd _ _ _ (by simp)) (mono_upd _ _ _ (by simp))), kn_sl (by simp [upd_same])⟩
  ·cases h
 ·cases h
theorem inApp_mono {r off len sz : Nat} {own : Bool} {L : List V} {c : AV} {av : AV} {ob : Objs} (h : inApp s r off len own sz L c = some (av, ob)) : Mono s.objs ob ∧ Kn ob av := by
 unfold inApp at h
 split at h
 ·split at h
  ·simp only [Option.some.injEq, Prod.mk.injEq] at h; obtain ⟨rfl, rfl⟩ := h
   exact ⟨mono_upd _ _ _ (by simp), kn_sl (by simp [upd_same])⟩
  ·cases h
 ·cases h
theorem app1_mono {id : Nat} {x y : X} {sz bytes : Nat} {mv : Bool} {av : AV} {ob : Objs} (h : eff s id (.app x y sz bytes mv) = some (av, ob)) : Mono s.objs ob ∧ Kn ob av := by
 simp only [eff] at h
 split at h
 ·obtain ⟨h1, h2⟩ := appTo_mono h
  exact ⟨mono_trans (mono_upd _ _ _ (by simp)) h1, h2⟩
 ·split at h
  ·split at h
   ·split at h
    ·split at h
     ·rename_i p hp
      simp only [Option.some.injEq] at h; subst h
      exact appTo_mono hp
     ·exact inApp_mono h
    ·cases h
   ·cases h
  ·cases h
theorem absorb1_mono {o o2 : Objs} {c : AV} {v : V} (h : absorb1 o c = some (v, o2)) : Mono o o2 := by
 unfold absorb1 at h
 split at h
 ·split at h
  ·simp only [Option.some.injEq, Prod.mk.injEq] at h; obtain ⟨_, rfl⟩ := h; exact mono_refl _
  ·cases h
 ·split at h
  ·simp only [Option.some.injEq, Prod.mk.injEq] at h; obtain ⟨_, rfl⟩ := h
   exact mono_upd _ _ _ (by simp)
  ·cases h
 ·cases h
theorem absorbL_mono : ∀ {cs : List AV} {o o2 : Objs} {vs : List V} (h : absorbL o cs = some (vs, o2)), Mono o o2
 | [], o, o2, vs, h => by simp only [absorbL, Option.some.injEq, Prod.mk.injEq] at h; obtain ⟨_, rfl⟩ := h; exact mono_refl _
 | c :: cs, o, o2, vs, h => by
  simp only [absorbL] at h
  split at h
  ·rename_i h1
   split at h
   ·rename_i h2
    simp only [Option.some.injEq, Prod.mk.injEq] at h; obtain ⟨_, rfl⟩ := h
    exact mono_trans (absorb1_mono h1) (absorbL_mono h2)
   ·cases h
  ·cases h
theorem elem_mono {o o2 : Objs} {c : AV} {v : V} {f : Bool} (h : elem o c = some (v, f, o2)) : Mono o o2 := by
 unfold elem at h
 split at h
 ·rename_i v' o' h1
  simp only [Option.some.injEq, Prod.mk.injEq] at h; obtain ⟨_, _, rfl⟩ := h
  unfold absorb at h1
  split at h1
  ·split at h1
   ·rename_i h2
    simp only [Option.some.injEq, Prod.mk.injEq] at h1; obtain ⟨_, rfl⟩ := h1
    exact absorbL_mono h2
   ·cases h1
  ·split at h1
   ·simp only [Option.some.injEq, Prod.mk.injEq] at h1; obtain ⟨_, rfl⟩ := h1; exact mono_refl _
   ·cases h1
  ·exact absorb1_mono h1
 ·split at h
  ·simp only [Option.some.injEq, Prod.mk.injEq] at h; obtain ⟨_, _, rfl⟩ := h; exact mono_refl _
  ·cases h
theorem elems_mono : ∀ {cs : List AV} {o o2 : Objs} {vs : List V} {f : Bool} (h : elems o cs = some (vs, f, o2)), Mono o o2
 | [], o, o2, vs, f, h => by simp only [elems, Option.some.injEq, Prod.mk.injEq] at h; obtain ⟨_, _, rfl⟩ := h; exact mono_refl _
 | c :: cs, o, o2, vs, f, h => by
  simp only [elems] at h
  split at h
  ·rename_i h1
   split at h
   ·rename_i h2
    simp only [Option.some.injEq, Prod.mk.injEq] at h; obtain ⟨_, _, rfl⟩ := h
    exact mono_trans (elem_mono h1) (elems_mono h2)
   ·cases h
  ·cases h
theorem app_mono {id : Nat} {m : FO} (hm : m.ap = true) {av : AV} {ob : Objs} (h : eff s id m = some (av, ob)) : Mono s.objs ob ∧ Kn ob av := by
 cases m <;> simp only [FO.ap] at hm <;> try (cases hm; done)
 case app x y sz bytes mv => exact app1_mono h
 case bsl sz xs =>
  simp only [eff] at h
  split at h
  ·rename_i he
   split at h
   ·simp only [Option.some.injEq, Prod.mk.injEq] at h; obtain ⟨rfl, rfl⟩ := h
    exact ⟨mono_trans (elems_mono he) (mono_upd _ _ _ (by simp)), kn_sl (by simp [upd_same])⟩
   ·cases h
  ·cases h
theorem app1_tm {s2 : St} {id : Nat} {x y : X} {sz bytes : Nat} {mv : Bool} (ho : s2.objs = s.objs) (hx : s2.get x = s.get x) (hy : s2.get y = s.get y) : eff s2 id (.app x y sz bytes mv) = eff s id (.app x y sz bytes mv) := by
 have hi : ∀ (r off len : Nat) (own : Bool) (sz : Nat) (L : List V) (c : AV), inApp s2 r off len own sz L c = inApp s r off len own sz L c := by
  intro r off len own sz L c
  unfold inApp
  rw [ho]
 simp only [eff, ho, hy, hi]
 split
 ·rfl
 ·rw [hx]
theorem app_tm {s2 : St} {id : Nat} {m : FO} (hm : m.ap = true) (ho : s2.objs = s.objs) (ht : ∀ t ∈ m.rd, s2.tmps t = s.tmps t) : eff s2 id m = eff s id m := by
 cases m <;> simp only [FO.ap] at hm <;> try (cases hm; done)
 case app x y sz bytes mv => exact app1_tm ho (get_agr fun t h => ht t (by simp [FO.rd, h])) (get_agr fun t h => ht t (by simp [FO.rd, h]))
 case bsl sz xs => simp only [eff, ho, gets_agr (xs := xs) (fun t h => ht t (by simpa [FO.rd] using h))]
theorem kn_mono {o ob : Objs} (h : Mono o ob) {c : AV} (hk : Kn o c) : Kn ob c := fun r hr => h.1 r (hk r hr)
theorem kn_putm (hk : KnSt s) {d : Option Nat} {av : AV} {ob : Objs} (hm : Mono s.objs ob) (h1 : Kn ob av) : KnSt (put s d av ob) := by
 refine ⟨fun t => ?_, ?_⟩
 ·rw [put_objs]
  by_cases e : d = some t
  ·subst e; simp only [put, upd_same]; exact h1
  ·rw [put_tmps_ne e]; exact kn_mono hm (hk.tmps t)
 ·rw [put_objs]
  intro r cs ho c hc
  exact kn_mono hm (hk.box r cs (hm.2 r cs ho) c hc)
theorem mv_step {id : Nat} {m : MI} (hm : isMv m = true) {s1 : St} : (∃ z, m.op = .p false (.mv z) ∧ m.gd = none) ∧ ∀ z, m.op = .p false (.mv z) → (Step P s id m s1 ↔ s1 = put s m.dst (s.get z) s.objs) := by
 unfold isMv at hm
 rw [Bool.and_eq_true] at hm
 have hg : m.gd = none := by simpa using hm.1
 obtain ⟨z, hz⟩ : ∃ z, m.op = .p false (.mv z) := by
  have := hm.2
  split at this
  ·rename_i z h; exact ⟨z, h⟩
  ·cases this
 refine ⟨⟨z, hz, hg⟩, fun z hz => ?_⟩
 constructor
 ·rintro (⟨hw, _⟩ | ⟨_, av, ob, hso, rfl⟩ | ⟨_, hx⟩)
  ·rw [hg] at hw; simp [wants] at hw
  ·rw [hz] at hso
   obtain ⟨h1, rfl⟩ := hso
   simp only [ev, Option.some.injEq] at h1
   rw [h1]
  ·rw [hz] at hx; exact hx.elim
 ·rintro rfl
  refine .inr (.inl ⟨by rw [hg]; rfl, s.get z, s.objs, ?_, rfl⟩)
  rw [hz]
  exact ⟨rfl, rfl⟩
theorem app_step {id : Nat} {m : MI} (hm : isApp m = true) {s1 : St} : (∃ fo, m.op = .f fo ∧ fo.ap = true ∧ m.gd = none) ∧ ∀ fo, m.op = .f fo → (Step P s id m s1 ↔ ∃ av ob, eff s id fo = some (av, ob) ∧ s1 = put s m.dst av ob) := by
 unfold isApp at hm
 rw [Bool.and_eq_true] at hm
 have hg : m.gd = none := by simpa using hm.1
 obtain ⟨fo, hz, ha⟩ : ∃ fo, m.op = .f fo ∧ fo.ap = true := by
  have := hm.2
  split at this
  ·rename_i fo h; exact ⟨fo, h, this⟩
  ·cases this
 refine ⟨⟨fo, hz, ha, hg⟩, fun fo hz => ?_⟩
 constructor
 ·rintro (⟨hw, _⟩ | ⟨_, av, ob, hso, rfl⟩ | ⟨_, hx⟩)
  ·rw [hg] at hw; simp [wants] at hw
  ·rw [hz] at hso
   exact ⟨av, ob, hso, rfl⟩
  ·rw [hz] at hx; exact hx.elim
 ·rintro ⟨av, ob, he, rfl⟩
  refine .inr (.inl ⟨by rw [hg]; rfl, av, ob, ?_, rfl⟩)
  rw [hz]
  exact he
theorem indep_kn (hk : KnSt s) {id : Nat} {mj mi : MI} (hin : indep mj mi = true) {s1 : St} (h : Step P s id mj s1) : KnSt s1 := by
 simp only [indep, Bool.and_eq_true, Bool.or_eq_true] at hin
 have soft : mj.op.soft = true → KnSt s1 := by
  intro hs
  obtain ⟨av, G, hG, e, _, k1, k2⟩ := soft_step hk (fun r _ => rfl) hs (fun t _ => rfl) h
  rw [e]
  exact kn_put hk k1 k2
 rcases hin.1 with h1 | h1 | h1
 ·exact soft h1.1
 ·obtain ⟨⟨z, hz, _⟩, _⟩ := mv_step (P := P) (s := s) (id := id) (s1 := s1) h1.1
  exact soft (by rw [hz]; rfl)
 ·obtain ⟨⟨fo, hz, hap, _⟩, hst⟩ := app_step (P := P) (s := s) (id := id) (s1 := s1) h1.1
  obtain ⟨av, ob, he, rfl⟩ := (hst fo hz).1 h
  obtain ⟨m1, m2⟩ := app_mono hap he
  exact kn_putm hk m1 m2
theorem get_put {d : Option Nat} {av : AV} {ob : Objs} {x : X} (h : ∀ t ∈ rdX x, d ≠ some t) : (put s d av ob).get x = s.get x := get_agr (fun t ht => put_tmps_ne (h t ht))
theorem put_put {d d' : Option Nat} {av av' : AV} {ob ob' ob2 : Objs} (h : ∀ t, d = some t → d' ≠ some t) : put (put s d av ob) d' av' ob2 = put (put s d' av' ob') d av ob2 := by
 cases hd : d with
 | none => cases hd' : d' <;> simp [put]
 | some t =>
  cases hd' : d' with
  | none => simp [put]
  | some t' =>
   have hne : t ≠ t' := fun e => h t hd (by rw [hd', e])
   simp only [put]
   congr 1
   funext q
   by_cases e1 : q = t
   ·subst e1
    rw [upd_ne hne, upd_same, upd_same]
   ·by_cases e2 : q = t'
    ·subst e2; rw [upd_same, upd_ne e1, upd_same]
    ·rw [upd_ne e2, upd_ne e1, upd_ne e1, upd_ne e2]
theorem swap_app {idj idi : Nat} {mj mi : MI} (hja : isApp mj = true) (him : isMv mi = true) (nd1 : ∀ t ∈ mi.rd, mj.dst ≠ some t) (nd2 : ∀ t ∈ mj.rd, mi.dst ≠ some t) (ndd : ∀ t, mj.dst = some t → mi.dst ≠ some t) {s1 s2 : St} (h1 : Step P s idj mj s1) (h2 : Step P s1 idi mi s2) :
  ∃ s1', Step P s idi mi s1' ∧ Step P s1' idj mj s2 := by
 obtain ⟨⟨fo, hz, hap, hg⟩, hst⟩ := app_step (P := P) (s := s) (id := idj) (s1 := s1) hja
 obtain ⟨⟨z, hz2, hg2⟩, hst2⟩ := mv_step (P := P) (s := s1) (id := idi) (s1 := s2) him
 obtain ⟨av, ob, he, rfl⟩ := (hst fo hz).1 h1
 have h2 := (hst2 z hz2).1 h2
 have rz : ∀ t ∈ rdX z, mj.dst ≠ some t := fun t ht => nd1 t (by simp [MI.rd, hz2, AO.rd, MO.rd, ht])
 have rx : ∀ t ∈ fo.rd, mi.dst ≠ some t := fun t ht => nd2 t (by simp [MI.rd, hz, AO.rd, ht])
 rw [get_put rz, put_objs] at h2
 refine ⟨put s mi.dst (s.get z) s.objs, ((mv_step him).2 z hz2).2 rfl, ((app_step hja).2 fo hz).2 ⟨av, ob, ?_, ?_⟩⟩
 ·rw [app_tm hap put_objs (fun t ht => put_tmps_ne (rx t ht))]; exact he
 ·rw [h2]; exact put_put ndd
theorem swap_mv {idj idi : Nat} {mj mi : MI} (hjm : isMv mj = true) (hia : isApp mi = true) (nd1 : ∀ t ∈ mi.rd, mj.dst ≠ some t) (nd2 : ∀ t ∈ mj.rd, mi.dst ≠ some t) (ndd : ∀ t, mj.dst = some t → mi.dst ≠ some t) {s1 s2 : St} (h1 : Step P s idj mj s1) (h2 : Step P s1 idi mi s2) :
  ∃ s1', Step P s idi mi s1' ∧ Step P s1' idj mj s2 := by
 obtain ⟨⟨z, hz2, hg2⟩, hst2⟩ := mv_step (P := P) (s := s) (id := idj) (s1 := s1) hjm
 obtain ⟨⟨fo, hz, hap, hg⟩, hst⟩ := app_step (P := P) (s := s1) (id := idi) (s1 := s2) hia
 have h1 := (hst2 z hz2).1 h1
 subst h1
 obtain ⟨av, ob, he, rfl⟩ := (hst fo hz).1 h2
 have rx : ∀ t ∈ fo.rd, mj.dst ≠ some t := fun t ht => nd1 t (by simp [MI.rd, hz, AO.rd, ht])
 have rz : ∀ t ∈ rdX z, mi.dst ≠ some t := fun t ht => nd2 t (by simp [MI.rd, hz2, AO.rd, MO.rd, ht])
 rw [app_tm hap put_objs (fun t ht => put_tmps_ne (rx t ht))] at he
 refine ⟨put s mi.dst av ob, ((app_step hia).2 fo hz).2 ⟨av, ob, he, rfl⟩, ((mv_step hjm).2 z hz2).2 ?_⟩
 rw [get_put rz, put_objs]
 exact put_put ndd
def FreshAt (s : St) (id : Nat) : Prop := ∀ k, k < 64 → s.objs (id + k) = none
theorem slot_none {id : Nat} {G : Objs} (hG : Slot id G) (hf : FreshAt s id) {r : Nat} (hr : s.objs r ≠ none) : G r = none := by
 cases h : G r with
 | none => rfl
 | some x =>
  obtain ⟨h1, h2⟩ := hG r (by rw [h]; simp)
  have := hf (r - id) (by omega)
  rw [show id + (r - id) = r by omega] at this
  exact absurd this hr
theorem swap (hk : KnSt s) {idj idi : Nat} {mj mi : MI} (hin : indep mj mi = true) (hdj : idj + 64 ≤ idi ∨ idi + 64 ≤ idj) (hfj : FreshAt s idj) (hfi : FreshAt s idi) {s1 s2 : St} (h1 : Step P s idj mj s1) (h2 : Step P s1 idi mi s2) :
  ∃ s1', Step P s idi mi s1' ∧ Step P s1' idj mj s2 ∧ KnSt s1 := by
 have hk1 := indep_kn hk hin h1
 simp only [indep, indepD, Bool.and_eq_true, Bool.or_eq_true] at hin
 obtain ⟨hsoft, d1, d2⟩ := hin
 have nd1 : ∀ t ∈ mi.rd, mj.dst ≠ some t := by
  intro t ht e
  rw [e] at d1
  simp only [Bool.and_eq_true, Bool.not_eq_true'] at d1
  have := d1.1
  rw [List.contains_iff_mem.2 ht] at this
  cases this
 have nd2 : ∀ t ∈ mj.rd, mi.dst ≠ some t := by
  intro t ht e
  rw [e] at d2
  simp only [Bool.not_eq_true'] at d2
  rw [List.contains_iff_mem.2 ht] at d2
  cases d2
 have ndd : ∀ t, mj.dst = some t → mi.dst ≠ some t := by
  intro t e e'
  rw [e, e'] at d1
  simp at d1
 rcases hsoft with ⟨sj, si⟩ | ⟨jm, ia⟩ | ⟨ja, im⟩
 rotate_left 1
 ·obtain ⟨s1', q1, q2⟩ := swap_mv jm ia nd1 nd2 ndd h1 h2
  exact ⟨s1', q1, q2, hk1⟩
 ·obtain ⟨s1', q1, q2⟩ := swap_app ja im nd1 nd2 ndd h1 h2
  exact ⟨s1', q1, q2, hk1⟩
 have agr0 : Agr s s := fun r _ => rfl
 obtain ⟨avj, Gj, hGj, e1, hj, kj1, kj2⟩ := soft_step hk agr0 sj (fun t _ => rfl) h1
 subst e1
 have agr1 : ∀ {d av id G}, Slot id G → FreshAt s id → Agr s (put s d av (over s.objs G)) := by
  intro d av id G hG hf r hr
  rw [put_objs]
  simp only [over, slot_none hG hf hr]
 obtain ⟨avi, Gi, hGi, e2, hi, ki1, ki2⟩ := soft_step hk (agr1 hGj hfj) si (fun t ht => put_tmps_ne (nd1 t ht)) h2
 subst e2
 refine ⟨put s mi.dst avi (over s.objs Gi), hi s agr0 (fun t _ => rfl), ?_, kn_put hk kj1 kj2⟩
 have hlast := hj (put s mi.dst avi (over s.objs Gi)) (agr1 hGi hfi) (fun t ht => put_tmps_ne (nd2 t ht))
 have e : put (put s mi.dst avi (over s.objs Gi)) mj.dst avj (over (put s mi.dst avi (over s.objs Gi)).objs Gj) = put (put s mj.dst avj (over s.objs Gj)) mi.dst avi (over (put s mj.dst avj (over s.objs Gj)).objs Gi) := by
  have eo : over (over s.objs Gi) Gj = over (over s.objs Gj) Gi := by
   funext q
   simp only [over]
   cases hj' : Gj q with
   | none => cases Gi q <;> rfl
   | some x =>
    cases hi' : Gi q with
    | none => rfl
    | some y =>
     have a1 := hGj q (by rw [hj']; simp)
     have a2 := hGi q (by rw [hi']; simp)
     omega
  rw [put_objs, put_objs, eo]
  cases hdi : mi.dst with
  | none => cases hdj' : mj.dst <;> simp [put]
  | some d =>
   cases hdj' : mj.dst with
   | none => simp [put]
   | some d' =>
    have hne : d ≠ d' := fun e => ndd d' hdj' (by rw [hdi, e])
    simp only [put]
    congr 1
    funext t
    by_cases e1 : t = d
    ·subst e1; rw [upd_ne hne, upd_same, upd_same]
    ·by_cases e2 : t = d'
     ·subst e2; rw [upd_same, upd_ne e1, upd_same]
     ·rw [upd_ne e2, upd_ne e1, upd_ne e1, upd_ne e2]
 rw [e] at hlast
 exact hlast
end
end Go.Ab
