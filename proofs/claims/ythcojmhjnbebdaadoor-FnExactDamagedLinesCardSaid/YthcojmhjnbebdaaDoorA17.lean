/- Operations whose order is open: frames that agree (own framework). -/
import Derived.Test.YthcojmhjnbebdaaDoorA16
set_option linter.unusedVariables false
set_option linter.unusedSimpArgs false
namespace Go.Ab
open Go.RowKit

/-- c names root r. -/
inductive Ment : AV → Nat → Prop
  | val {r : Nat} {v : V} : Ment (.val (some r) v) r
  | sl {r off len : Nat} : Ment (.sl r off len) r
  | ptr {r i f : Nat} : Ment (.ptr r i f) r
  | agg {cs : List AV} {c : AV} {r : Nat} (hc : c ∈ cs) (h : Ment c r) : Ment (.agg cs) r
  | tup {cs : List AV} {c : AV} {r : Nat} (hc : c ∈ cs) (h : Ment c r) : Ment (.tup cs) r
  | fn {f : Nat} {cs : List AV} {c : AV} {r : Nat} (hc : c ∈ cs) (h : Ment c r) : Ment (.fn f cs) r
  | mp {r : Nat} : Ment (.mp r) r
def Kn (o : Objs) (c : AV) : Prop := ∀ r, Ment c r → o r ≠ none
structure KnSt (s : St) : Prop where
  tmps : ∀ t, Kn s.objs (s.tmps t)
  box : ∀ r cs, s.objs r = some (.box cs) → ∀ c ∈ cs, Kn s.objs c

theorem kn_val0 {o : Objs} {v : V} : Kn o (.val none v) := by intro r h; cases h
theorem kn_val1 {o : Objs} {r : Nat} {v : V} (h : o r ≠ none) : Kn o (.val (some r) v) := by intro q hq; cases hq; exact h
theorem kn_sl {o : Objs} {r off len : Nat} (h : o r ≠ none) : Kn o (.sl r off len) := by intro q hq; cases hq; exact h
theorem kn_ptr {o : Objs} {r i f : Nat} (h : o r ≠ none) : Kn o (.ptr r i f) := by intro q hq; cases hq; exact h
theorem kn_agg {o : Objs} {cs : List AV} (h : ∀ c ∈ cs, Kn o c) : Kn o (.agg cs) := by intro q hq; cases hq with | agg hc hm => exact h _ hc q hm
theorem kn_tup {o : Objs} {cs : List AV} (h : ∀ c ∈ cs, Kn o c) : Kn o (.tup cs) := by intro q hq; cases hq with | tup hc hm => exact h _ hc q hm
theorem kn_fn {o : Objs} {f : Nat} {cs : List AV} (h : ∀ c ∈ cs, Kn o c) : Kn o (.fn f cs) := by intro q hq; cases hq with | fn hc hm => exact h _ hc q hm
theorem kn_bad {o : Objs} : Kn o .bad := by intro q hq; cases hq
theorem kn_mp {o : Objs} {r : Nat} (h : o r ≠ none) : Kn o (.mp r) := by intro q hq; cases hq; exact h
theorem kn_ub {o : Objs} : Kn o .ub := by intro q hq; cases hq

mutual
theorem AvRep.kn {E : Env} : ∀ {c : AV} {x : Value}, AvRep E c x → Kn E.objs c
  | _, _, .val0 _ => kn_val0
  | _, _, .val1 hr _ => kn_val1 hr
  | _, _, .sl hr _ => kn_sl hr
  | _, _, .ptrRow hr _ _ => kn_ptr hr
  | _, _, .agg _ h => kn_agg (AvReps.kn h)
  | _, _, .tup h => kn_tup (AvReps.kn h)
  | _, _, .fn h => kn_fn (AvReps.kn h)
  | _, _, .bad => kn_bad
  | _, _, .ub => kn_ub
  | _, _, .mp hr _ => kn_mp hr
theorem AvReps.kn {E : Env} : ∀ {cs : List AV} {xs : List Value}, AvReps E cs xs → ∀ c ∈ cs, Kn E.objs c
  | _, _, .nil => by simp
  | _, _, .cons h hs => by
    intro c hc
    rcases List.mem_cons.1 hc with rfl | hc
    · exact h.kn
    · exact AvReps.kn hs c hc
end

theorem SimE.kn {N : Fr} {w0 : Base} {D0 : BSet} {E : Env} {st : St} {a : Act} {w : World} (hE : SimE N w0 D0 E st a w) : KnSt st := by
  refine ⟨fun t => by rw [← hE.eo]; exact (hE.tmps t).kn, ?_⟩
  intro r cs ho c hc
  rw [← hE.eo] at ho ⊢
  obtain ⟨g, cur, e, _, _, h, _⟩ := hE.good.roots r _ ho
  exact h.kn c hc

/-- s' knows what s knows. -/
def Agr (s s' : St) : Prop := ∀ r, s.objs r ≠ none → s'.objs r = s.objs r

def rdX : X → List Nat
  | .t n => [n]
  | _ => []
def rdXo : Option X → List Nat
  | some x => rdX x
  | none => []
def rdXs : List X → List Nat
  | [] => []
  | x :: xs => rdX x ++ rdXs xs
def MO.rd : MO → List Nat
  | .mv x | .nck x | .not x | .neg x | .conv _ x | .cvs x | .bts x | .fad x _ | .fld x _ _ _ | .ld x _ _ | .ext x _ | .len x | .lens x | .isn _ x => rdX x
  | .pick c a b => rdX c ++ (rdX a ++ rdX b)
  | .bin _ x y | .bnb _ x y | .eqs _ _ x y | .iad x y _ | .ixs x y | .ixa x y _ _ _ | .mnx _ x y => rdX x ++ rdX y
  | .slc x lo hi _ | .slcs x lo hi => rdX x ++ (rdXo lo ++ rdXo hi)
  | .slc3 x lo hi mx _ => rdX x ++ (rdXo lo ++ (rdXo hi ++ rdXo mx))
  | .mkf _ caps => rdXs caps
  | .mlk _ x k _ _ => rdX x ++ rdX k

section
variable {s s' : St}

theorem get_agr {x : X} (ht : ∀ t ∈ rdX x, s'.tmps t = s.tmps t) : s'.get x = s.get x := by
  cases x <;> first | rfl | exact ht _ (by simp [rdX])
theorem gets_agr : ∀ {xs : List X} (ht : ∀ t ∈ rdXs xs, s'.tmps t = s.tmps t), xs.map s'.get = xs.map s.get
  | [], _ => rfl
  | x :: xs, ht => by
    simp only [List.map_cons]
    rw [get_agr (fun t h => ht t (by simp [rdXs, h])), gets_agr (fun t h => ht t (by simp [rdXs, h]))]
theorem get_kn (hk : KnSt s) (x : X) : Kn s.objs (s.get x) := by
  cases x with
  | t n => exact hk.tmps n
  | c v => exact kn_val0
  | f n => exact kn_fn (by simp)
theorem view_agr (ha : Agr s s') {c : AV} (hk : Kn s.objs c) : s'.view c = s.view c := by
  cases c with
  | val src v =>
    cases src with
    | none => rfl
    | some r => simp only [St.view]; rw [ha r (hk r .val)]
  | _ => rfl
theorem sl_agr (ha : Agr s s') {r off len : Nat} (hk : Kn s.objs (.sl r off len)) : s'.objs r = s.objs r := ha r (hk r .sl)
theorem ptr_agr (ha : Agr s s') {r i f : Nat} (hk : Kn s.objs (.ptr r i f)) : s'.objs r = s.objs r := ha r (hk r .ptr)

theorem bnd_agr (ha : Agr s s') (hk : KnSt s) {d : Nat} {x : Option X} (ht : ∀ t ∈ rdXo x, s'.tmps t = s.tmps t) : bnd s' d x = bnd s d x := by
  cases x with
  | none => rfl
  | some x => simp only [bnd]; rw [get_agr ht, view_agr ha (get_kn hk x)]

theorem aggOf_agr (ha : Agr s s') {c : AV} (hk : Kn s.objs c) : aggOf s' c = aggOf s c := by
  cases c with
  | agg cs => rfl
  | _ => simp only [aggOf]; rw [view_agr ha hk]
theorem mapOf_agr (ha : Agr s s') {c : AV} (hk : Kn s.objs c) : mapOf s' c = mapOf s c := by
  cases c with
  | mp r => simp only [mapOf]; rw [ha r (hk r .mp)]
  | _ => simp only [mapOf, view_agr ha hk]
theorem scOf_agr (ha : Agr s s') {c : AV} (hk : Kn s.objs c) : scOf s' c = scOf s c := by
  simp only [scOf, view_agr ha hk]
theorem ev_agr (ha : Agr s s') (hk : KnSt s) {m : MO} (ht : ∀ t ∈ m.rd, s'.tmps t = s.tmps t) : ev s' m = ev s m := by
  cases m <;> simp only [MO.rd] at ht
  case mv x => simp only [ev]; rw [get_agr ht]
  case pick c a b =>
    simp only [ev]
    rw [get_agr (x := c) (fun t h => ht t (by simp [h])), get_agr (x := a) (fun t h => ht t (by simp [h])), get_agr (x := b) (fun t h => ht t (by simp [h])), view_agr ha (get_kn hk c)]
  case nck x =>
    have hkx := get_kn hk x
    simp only [ev]; rw [get_agr ht]
    generalize s.get x = c at hkx
    cases c with
    | ptr r i f => simp only; rw [ptr_agr ha hkx]
    | _ => simp only [view_agr ha hkx]
  case bin op x y => simp only [ev]; rw [get_agr (x := x) (fun t h => ht t (by simp [h])), get_agr (x := y) (fun t h => ht t (by simp [h])), view_agr ha (get_kn hk x), view_agr ha (get_kn hk y)]
  case bnb n x y => simp only [ev]; rw [get_agr (x := x) (fun t h => ht t (by simp [h])), get_agr (x := y) (fun t h => ht t (by simp [h])), view_agr ha (get_kn hk x), view_agr ha (get_kn hk y)]
  case eqs n ks x y =>
    simp only [ev]; rw [get_agr (x := x) (fun t h => ht t (by simp [h])), get_agr (x := y) (fun t h => ht t (by simp [h])), aggOf_agr ha (get_kn hk x), aggOf_agr ha (get_kn hk y)]
  case not x => simp only [ev]; rw [get_agr ht, view_agr ha (get_kn hk x)]
  case neg x => simp only [ev]; rw [get_agr ht, view_agr ha (get_kn hk x)]
  case conv k x => simp only [ev]; rw [get_agr ht, view_agr ha (get_kn hk x)]
  case cvs x => simp only [ev]; rw [get_agr ht, view_agr ha (get_kn hk x)]
  case bts x =>
    have hkx := get_kn hk x
    simp only [ev]; rw [get_agr ht]
    generalize s.get x = c at hkx
    cases c with
    | sl r off len => simp only; rw [sl_agr ha hkx]
    | _ => simp only [view_agr ha hkx]
  case fad x f =>
    have hkx := get_kn hk x
    simp only [ev]; rw [get_agr ht]
    generalize s.get x = c at hkx
    cases c with
    | ptr r i f => simp only; rw [ptr_agr ha hkx]
    | _ => simp only [view_agr ha hkx]
  case fld x f n ag =>
    have hkx := get_kn hk x
    simp only [ev]; rw [get_agr ht]
    generalize s.get x = c at hkx
    cases c <;> simp only [view_agr ha hkx]
  case iad x i sz =>
    have hkx := get_kn hk x
    simp only [ev]; rw [get_agr (x := x) (fun t h => ht t (by simp [h])), get_agr (x := i) (fun t h => ht t (by simp [h])), view_agr ha (get_kn hk i)]
    generalize s.get x = c at hkx
    cases c with
    | sl r off len => simp only; rw [sl_agr ha hkx]
    | _ => simp only [view_agr ha hkx]
  case ixs x i => simp only [ev]; rw [get_agr (x := x) (fun t h => ht t (by simp [h])), get_agr (x := i) (fun t h => ht t (by simp [h])), view_agr ha (get_kn hk x), view_agr ha (get_kn hk i)]
  case ixa x i l sz ag =>
    have hkx := get_kn hk x
    simp only [ev]; rw [get_agr (x := x) (fun t h => ht t (by simp [h])), get_agr (x := i) (fun t h => ht t (by simp [h])), view_agr ha (get_kn hk i)]
    generalize s.get x = c at hkx
    cases c <;> simp only [view_agr ha hkx]
  case ld x n ag =>
    have hkx := get_kn hk x
    simp only [ev]; rw [get_agr ht]
    generalize s.get x = c at hkx
    cases c with
    | ptr r i f => simp only; rw [ptr_agr ha hkx]
    | _ => simp only [view_agr ha hkx]
  case slc x lo hi sz =>
    have hkx := get_kn hk x
    simp only [ev]
    rw [get_agr (x := x) (fun t h => ht t (by simp [h]))]
    have e1 : ∀ d, bnd s' d lo = bnd s d lo := fun d => bnd_agr ha hk (fun t h => ht t (by simp [h]))
    have e2 : ∀ d, bnd s' d hi = bnd s d hi := fun d => bnd_agr ha hk (fun t h => ht t (by simp [h]))
    generalize s.get x = c at hkx
    cases c with
    | sl r off len => simp only [e1, e2]; rw [sl_agr ha hkx]
    | _ => simp only [view_agr ha hkx, e1, e2]
  case slc3 x lo hi mx sz =>
    have hkx := get_kn hk x
    simp only [ev]
    rw [get_agr (x := x) (fun t h => ht t (by simp [h]))]
    have e1 : ∀ d, bnd s' d lo = bnd s d lo := fun d => bnd_agr ha hk (fun t h => ht t (by simp [h]))
    have e2 : ∀ d, bnd s' d hi = bnd s d hi := fun d => bnd_agr ha hk (fun t h => ht t (by simp [h]))
    have e3 : ∀ d, bnd s' d mx = bnd s d mx := fun d => bnd_agr ha hk (fun t h => ht t (by simp [h]))
    generalize s.get x = c at hkx
    cases c with
    | sl r off len => simp only [e1, e2, e3]; rw [sl_agr ha hkx]
    | _ => rfl
  case slcs x lo hi =>
    simp only [ev]
    rw [get_agr (x := x) (fun t h => ht t (by simp [h])), view_agr ha (get_kn hk x)]
    have e1 : ∀ d, bnd s' d lo = bnd s d lo := fun d => bnd_agr ha hk (fun t h => ht t (by simp [h]))
    have e2 : ∀ d, bnd s' d hi = bnd s d hi := fun d => bnd_agr ha hk (fun t h => ht t (by simp [h]))
    simp only [e1, e2]
  case ext x j => simp only [ev]; rw [get_agr ht]
  case len x =>
    have hkx := get_kn hk x
    simp only [ev]; rw [get_agr ht]
    generalize s.get x = c at hkx
    cases c with
    | sl r off len => simp only; rw [sl_agr ha hkx]
    | _ => simp only [view_agr ha hkx]
  case lens x => simp only [ev]; rw [get_agr ht, view_agr ha (get_kn hk x)]
  case isn neg x =>
    have hkx := get_kn hk x
    simp only [ev]; rw [get_agr ht]
    generalize s.get x = c at hkx
    cases c with
    | sl r off len => simp only; rw [sl_agr ha hkx]
    | _ => simp only [view_agr ha hkx]
  case mnx mx x y => simp only [ev]; rw [get_agr (x := x) (fun t h => ht t (by simp [h])), get_agr (x := y) (fun t h => ht t (by simp [h])), view_agr ha (get_kn hk x), view_agr ha (get_kn hk y)]
  case mkf f caps => simp only [ev]; rw [gets_agr ht]
  case mlk kd x k z ok => simp only [ev]; rw [get_agr (x := x) (fun t h => ht t (by simp [h])), get_agr (x := k) (fun t h => ht t (by simp [h])), mapOf_agr ha (get_kn hk x), scOf_agr ha (get_kn hk k)]

theorem trav_congr {f g : AV → Option V} : ∀ {cs : List AV} (h : ∀ c ∈ cs, f c = g c), trav f cs = trav g cs
  | [], _ => rfl
  | c :: cs, h => by simp only [trav]; rw [h c (by simp), trav_congr (fun c hc => h c (by simp [hc]))]

theorem snap_agr (ha : Agr s s') (hk : KnSt s) {ln : Bool} : ∀ (k : Nat) {c : AV}, Kn s.objs c → snap ln s' k c = snap ln s k c
  | 0, _, _ => rfl
  | k + 1, c, hc => by
    have ih : ∀ {c : AV}, Kn s.objs c → snap ln s' k c = snap ln s k c := fun h => snap_agr ha hk (ln := ln) k h
    cases c with
    | val src v =>
      cases src with
      | none => rfl
      | some r => simp only [snap]; rw [ha r (hc r .val)]
    | sl r off len => simp only [snap]; rw [sl_agr ha hc]
    | ptr r i f =>
      simp only [snap]; rw [ptr_agr ha hc]
      cases ho : s.objs r with
      | none => rfl
      | some o =>
        cases o with
        | row own sz L => rfl
        | dead => rfl
        | map es => rfl
        | box cs =>
          simp only
          rw [trav_congr (fun c hm => ih (hk.box r cs ho c hm))]
    | agg cs => simp only [snap]; rw [trav_congr (fun c hm => ih (fun q hq => hc q (.agg hm hq)))]
    | tup cs => rfl
    | fn f cs => simp only [snap]; rw [trav_congr (fun c hm => ih (fun q hq => hc q (.fn hm hq)))]
    | bad => rfl
    | ub => rfl
    | mp r => simp only [snap]; rw [ha r (hc r .mp)]

theorem fnOf_agr (ha : Agr s s') {c : AV} (hk : Kn s.objs c) : fnOf s' c = fnOf s c := by
  unfold fnOf
  cases c <;> simp only [view_agr ha hk]

theorem fnOf_kn {c : AV} (hk : Kn s.objs c) {f : Nat} {caps : List AV} (h : fnOf s c = some (f, caps)) : ∀ c ∈ caps, Kn s.objs c := by
  unfold fnOf at h
  split at h
  · simp only [Option.some.injEq, Prod.mk.injEq] at h
    obtain ⟨rfl, rfl⟩ := h
    exact fun c hc q hq => hk q (.fn hc hq)
  · split at h
    · rename_i src f' cps hv
      simp only [Option.some.injEq, Prod.mk.injEq] at h
      obtain ⟨rfl, rfl⟩ := h
      intro c' hc'
      obtain ⟨v, _, rfl⟩ := List.mem_map.1 hc'
      cases src with
      | none => exact kn_val0
      | some r =>
        refine kn_val1 ?_
        unfold St.view at hv
        split at hv
        · simp at hv
        · split at hv
          · rename_i r' v' hl
            simp only [Option.some.injEq, Prod.mk.injEq] at hv
            obtain ⟨rfl, _⟩ := hv
            intro hn
            rw [hn] at hl
            cases hl
          · cases hv
        · cases hv
    · cases h

theorem cellsAV_agr (ha : Agr s s') {c : AV} (hk : Kn s.objs c) : cellsAV s' c = cellsAV s c := by
  unfold cellsAV
  cases c with
  | sl r off len => simp only; rw [sl_agr ha hk]
  | ptr r i f => simp only; rw [ptr_agr ha hk]
  | mp r => simp only; rw [ha r (hk r .mp)]
  | val src v => simp only [view_agr ha hk]
  | _ => rfl

/-- o with the new roots of G. -/
def over (o : Objs) (G : Objs) : Objs := fun q => match G q with
  | some r => some r
  | none => o q
def Slot (id : Nat) (G : Objs) : Prop := ∀ q, G q ≠ none → id ≤ q ∧ q < id + 64

theorem over_none (o : Objs) : over o (fun _ => none) = o := rfl
theorem over_upd (o G : Objs) (id : Nat) (r : Root) : upd (over o G) id (some r) = over o (upd G id (some r)) := by
  funext q
  by_cases e : q = id
  · subst e; simp [upd_same, over]
  · simp [upd_ne e, over]
theorem over_upd0 (o : Objs) (id : Nat) (r : Root) : upd o id (some r) = over o (upd (fun _ => none) id (some r)) := over_upd o (fun _ => none) id r

theorem pl1_over (r : R1) (id : Nat) : ∃ av G, ∀ o H, (pl1 id (over o H) r) = (av, over o (over H G)) ∧ ∀ q, G q ≠ none → q = id := by
  cases r with
  | val v => exact ⟨.val none v, fun _ => none, fun o H => ⟨rfl, by simp⟩⟩
  | row own sz L =>
    refine ⟨.sl id 0 L.length, upd (fun _ => none) id (some (.row own sz L)), fun o H => ⟨?_, ?_⟩⟩
    · simp only [pl1]
      rw [over_upd, over_upd0 H]
    · intro q hq
      by_cases e : q = id
      · exact e
      · rw [upd_ne e] at hq; exact absurd rfl hq
theorem over_assoc (H G G' : Objs) : over (over H G) G' = over H (over G G') := by
  funext q
  simp only [over]
  cases G' q <;> rfl
theorem pl1L_over : ∀ (rs : List R1) (id : Nat), ∃ avs G, ∀ o H, (pl1L id (over o H) rs) = (avs, over o (over H G)) ∧ ∀ q, G q ≠ none → id ≤ q ∧ q < id + rs.length
  | [], id => ⟨[], fun _ => none, fun o H => ⟨rfl, by simp⟩⟩
  | r :: rs, id => by
    obtain ⟨av, G, h⟩ := pl1_over r id
    obtain ⟨avs, G', h'⟩ := pl1L_over rs (id + 1)
    refine ⟨av :: avs, over G G', fun o H => ⟨?_, ?_⟩⟩
    · simp only [pl1L]
      rw [(h o H).1]
      simp only
      rw [(h' o (over H G)).1]
      simp only [over_assoc]
    · intro q hq
      simp only [over] at hq
      simp only [List.length_cons]
      cases hg : G' q with
      | some x => have := (h' o H).2 q (by rw [hg]; simp); omega
      | none => rw [hg] at hq; have := (h o H).2 q hq; omega
theorem pl2_overN {n : Nat} (hn : 0 < n) (r : R2) (id : Nat) (hf : r.wide n = true) : ∃ av G, ∀ o H, (pl2 id (over o H) r) = (av, over o (over H G)) ∧ ∀ q, G q ≠ none → id ≤ q ∧ q < id + n := by
  cases r with
  | one r =>
    obtain ⟨av, G, h⟩ := pl1_over r id
    exact ⟨av, G, fun o H => ⟨(h o H).1, fun q hq => by have := (h o H).2 q hq; omega⟩⟩
  | agg rs =>
    simp only [R2.wide, decide_eq_true_eq] at hf
    obtain ⟨avs, G, h⟩ := pl1L_over rs id
    exact ⟨.agg avs, G, fun o H => ⟨by simp only [pl2]; rw [(h o H).1], fun q hq => by have := (h o H).2 q hq; omega⟩⟩
theorem pl2_over (r : R2) (id : Nat) (hf : r.fits = true) : ∃ av G, ∀ o H, (pl2 id (over o H) r) = (av, over o (over H G)) ∧ ∀ q, G q ≠ none → id ≤ q ∧ q < id + 16 := pl2_overN (by omega) r id hf
theorem pl2L_over : ∀ (rs : List R2) (id : Nat) (hf : ∀ r ∈ rs, R2.fits r = true), ∃ avs G, ∀ o H, (pl2L id (over o H) rs) = (avs, over o (over H G)) ∧ ∀ q, G q ≠ none → id ≤ q ∧ q < id + 16 * rs.length
  | [], id, _ => ⟨[], fun _ => none, fun o H => ⟨rfl, by simp⟩⟩
  | r :: rs, id, hf => by
    obtain ⟨av, G, h⟩ := pl2_over r id (hf r (by simp))
    obtain ⟨avs, G', h'⟩ := pl2L_over rs (id + 16) (fun r hr => hf r (by simp [hr]))
    refine ⟨av :: avs, over G G', fun o H => ⟨?_, ?_⟩⟩
    · simp only [pl2L]
      rw [(h o H).1]
      simp only
      rw [(h' o (over H G)).1]
      simp only [over_assoc]
    · intro q hq
      simp only [over] at hq
      simp only [List.length_cons]
      cases hg : G' q with
      | some x => have := (h' o H).2 q (by rw [hg]; simp); omega
      | none => rw [hg] at hq; have := (h o H).2 q hq; omega
theorem plV_over (r : RV) (id : Nat) (hf : r.fits = true) : ∃ av G, Slot id G ∧ ∀ o, plV id o r = (av, over o G) := by
  have e0 : ∀ G : Objs, over (fun _ => none) G = G := by
    intro G; funext q; simp only [over]; cases G q <;> rfl
  cases r with
  | one r =>
    obtain ⟨av, G, h⟩ := pl2_overN (n := 64) (by omega) r id hf
    refine ⟨av, G, fun q hq => by have := (h (fun _ => none) (fun _ => none)).2 q hq; omega, fun o => ?_⟩
    have := (h o (fun _ => none)).1
    rw [e0] at this
    exact this
  | tup rs =>
    simp only [RV.fits, Bool.and_eq_true, decide_eq_true_eq, List.all_eq_true] at hf
    obtain ⟨avs, G, h⟩ := pl2L_over rs id hf.2
    refine ⟨.tup avs, G, fun q hq => by have := (h (fun _ => none) (fun _ => none)).2 q hq; omega, fun o => ?_⟩
    have := (h o (fun _ => none)).1
    rw [e0] at this
    simp only [plV]
    have e1 : over o (fun _ => none) = o := rfl
    rw [e1] at this
    rw [this]

theorem zc1_plain (z : V) (n : Nat) (b : Bool) (hz : ¬ (z = .sl 0 [] ∧ b = false)) : ∃ av, ∀ id o, zc1 id o (z, n, b) = (av, o, id) := by
  cases b with
  | true => exact ⟨.bad, fun id o => rfl⟩
  | false =>
    refine ⟨.val none z, fun id o => ?_⟩
    cases z with
    | sl sz L =>
      cases sz with
      | zero => cases L with
        | nil => exact absurd ⟨rfl, rfl⟩ hz
        | cons => rfl
      | succ => rfl
    | _ => rfl
theorem zcells_over : ∀ (zs : List (V × Nat × Bool)) (id : Nat), ∃ avs G, ∀ o H, zcells id (over o H) zs = (avs, over o (over H G)) ∧ ∀ q, G q ≠ none → id ≤ q ∧ q < id + zs.length
  | [], id => ⟨[], fun _ => none, fun o H => ⟨rfl, by simp⟩⟩
  | (z, n, b) :: zs, id => by
    by_cases hz : z = .sl 0 [] ∧ b = false
    · obtain ⟨rfl, rfl⟩ := hz
      obtain ⟨avs, G, h⟩ := zcells_over zs (id + 1)
      refine ⟨.sl id 0 0 :: avs, over (upd (fun _ => none) id (some (.row true n []))) G, fun o H => ⟨?_, ?_⟩⟩
      · simp only [zcells, zc1]
        rw [over_upd, over_upd0 H, (h o _).1]
        simp only [over_assoc]
      · intro q hq
        simp only [over] at hq
        simp only [List.length_cons]
        cases hg : G q with
        | some x => have := (h o H).2 q (by rw [hg]; simp); omega
        | none =>
          rw [hg] at hq
          by_cases e : q = id
          · omega
          · simp only [upd_ne e] at hq; exact absurd rfl hq
    · obtain ⟨avs, G, h⟩ := zcells_over zs id
      obtain ⟨av, hav⟩ := zc1_plain z n b hz
      refine ⟨av :: avs, G, fun o H => ⟨?_, ?_⟩⟩
      · simp only [zcells, hav, (h o H).1]
      · intro q hq
        have := (h o H).2 q hq
        simp only [List.length_cons]
        omega
theorem zcells_kn : ∀ (zs : List (V × Nat × Bool)) (id : Nat) (o : Objs), (∀ c ∈ (zcells id o zs).1, Kn (zcells id o zs).2 c) ∧ (∀ q, o q ≠ none → (zcells id o zs).2 q ≠ none) ∧ ∀ q cs, (zcells id o zs).2 q = some (.box cs) → o q = some (.box cs) := by
  intro zs
  induction zs with
  | nil => intro id o; exact ⟨by simp [zcells], fun q h => h, fun q cs h => h⟩
  | cons z zs ih =>
    intro id o
    obtain ⟨z, n, b⟩ := z
    by_cases hz : z = .sl 0 [] ∧ b = false
    · obtain ⟨rfl, rfl⟩ := hz
      obtain ⟨b1, b2, b3⟩ := ih (id + 1) (upd o id (some (.row true n [])))
      refine ⟨?_, ?_, ?_⟩
      · intro c hc
        simp only [zcells, zc1] at hc ⊢
        rcases List.mem_cons.1 hc with rfl | hc
        · exact kn_sl (b2 id (by simp [upd_same]))
        · exact b1 c hc
      · intro q hq
        simp only [zcells, zc1]
        refine b2 q ?_
        by_cases e : q = id
        · subst e; simp [upd_same]
        · rw [upd_ne e]; exact hq
      · intro q cs hq
        simp only [zcells, zc1] at hq
        have := b3 q cs hq
        by_cases e : q = id
        · subst e; rw [upd_same] at this; cases this
        · rw [upd_ne e] at this; exact this
    · obtain ⟨av, hav⟩ := zc1_plain z n b hz
      obtain ⟨b1, b2, b3⟩ := ih id o
      simp only [zcells, hav]
      refine ⟨?_, b2, b3⟩
      intro c hc
      rcases List.mem_cons.1 hc with rfl | hc
      · cases b with
        | true =>
          have := hav id o
          simp only [zc1, Prod.mk.injEq] at this
          rw [← this.1]
          exact kn_bad
        | false =>
          have : c = .val none z := by
            have h1 := hav id o
            unfold zc1 at h1
            split at h1
            · rename_i h; simp at h
            · rename_i h
              simp only [Prod.mk.injEq] at h
              obtain ⟨rfl, rfl, _⟩ := h
              split at h1
              · exact absurd ⟨rfl, rfl⟩ hz
              · simp only [Prod.mk.injEq] at h1; exact h1.1.symm
          rw [this]
          exact kn_val0
      · exact b1 c hc
end
end Go.Ab
