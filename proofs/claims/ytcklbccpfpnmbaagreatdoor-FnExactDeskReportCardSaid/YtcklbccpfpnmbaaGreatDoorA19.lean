import Derived.Test.YtcklbccpfpnmbaaGreatDoorA16
set_option linter.unusedVariables false
set_option linter.unusedSimpArgs false
namespace Go.Ab
open Go.RowKit
inductive b0i : AV → Nat → Prop
 | val {r : Nat} {v : V} : b0i (.val (some r) v) r
 | sl {r off len : Nat} : b0i (.sl r off len) r
 | ptr {r i f : Nat} : b0i (.ptr r i f) r
 | agg {cs : List AV} {c : AV} {r : Nat} (hc : c ∈ cs) (h : b0i c r) : b0i (.agg cs) r
 | tup {cs : List AV} {c : AV} {r : Nat} (hc : c ∈ cs) (h : b0i c r) : b0i (.tup cs) r
 | fn {f : Nat} {cs : List AV} {c : AV} {r : Nat} (hc : c ∈ cs) (h : b0i c r) : b0i (.fn f cs) r
 | mp {r : Nat} : b0i (.mp r) r
def Kn (o : w9) (c : AV) : Prop := ∀ r, b0i c r → o r ≠ none
structure a3K (s : St) : Prop where
 tmps : ∀ t, Kn s.objs (s.tmps t)
 box : ∀ r cs, s.objs r = some (.box cs) → ∀ c ∈ cs, Kn s.objs c
theorem F1 {o : w9} {v : V} : Kn o (.val none v) := by intro r h; cases h
theorem b2z {o : w9} {r : Nat} {v : V} (h : o r ≠ none) : Kn o (.val (some r) v) := by intro q hq; cases hq; exact h
theorem a5c {o : w9} {r off len : Nat} (h : o r ≠ none) : Kn o (.sl r off len) := by intro q hq; cases hq; exact h
theorem b3N {o : w9} {r i f : Nat} (h : o r ≠ none) : Kn o (.ptr r i f) := by intro q hq; cases hq; exact h
theorem b1g {o : w9} {cs : List AV} (h : ∀ c ∈ cs, Kn o c) : Kn o (.agg cs) := by intro q hq; cases hq with | agg hc hm => exact h _ hc q hm
theorem b6z {o : w9} {cs : List AV} (h : ∀ c ∈ cs, Kn o c) : Kn o (.tup cs) := by intro q hq; cases hq with | tup hc hm => exact h _ hc q hm
theorem c1s {o : w9} {f : Nat} {cs : List AV} (h : ∀ c ∈ cs, Kn o c) : Kn o (.fn f cs) := by intro q hq; cases hq with | fn hc hm => exact h _ hc q hm
theorem b8D {o : w9} : Kn o .bad := by intro q hq; cases hq
theorem c4z {o : w9} {r : Nat} (h : o r ≠ none) : Kn o (.mp r) := by intro q hq; cases hq; exact h
theorem c1H {o : w9} : Kn o .ub := by intro q hq; cases hq
theorem c4N {o : w9} : Kn o .e0 := by intro q hq; cases hq
mutual
theorem AvRep.kn {E : Env} : ∀ {c : AV} {x : Value}, AvRep E c x → Kn E.objs c
 | _, _, .val0 _ => F1
 | _, _, .val1 hr _ => b2z hr
 | _, _, .sl hr _ => a5c hr
 | _, _, .ptrRow hr _ _ => b3N hr
 | _, _, .agg _ h => b1g (AvReps.kn h)
 | _, _, .tup h => b6z (AvReps.kn h)
 | _, _, .fn h => c1s (AvReps.kn h)
 | _, _, .bad => b8D
 | _, _, .ub => c1H
 | _, _, .e0 => c4N
 | _, _, .mp hr _ => c4z hr
theorem AvReps.kn {E : Env} : ∀ {cs : List AV} {xs : List Value}, AvReps E cs xs → ∀ c ∈ cs, Kn E.objs c
 | _, _, .nil => by simp
 | _, _, .cons h hs => by
  intro c hc
  rcases List.mem_cons.1 hc with rfl | hc
  ·exact h.kn
  ·exact AvReps.kn hs c hc
end
theorem SimE.kn {N : Fr} {w0 : Base} {D0 : q9} {E : Env} {st : St} {a : Act} {w : World} (hE : SimE N w0 D0 E st a w) : a3K st := by
 refine ⟨fun t => by rw [← hE.eo]; exact (hE.tmps t).kn, ?_⟩
 intro r cs ho c hc
 rw [← hE.eo] at ho ⊢
 obtain ⟨g, cur, e, _, _, h, _⟩ := hE.good.roots r _ ho
 exact h.kn c hc
def Agr (s s' : St) : Prop := ∀ r, s.objs r ≠ none → s'.objs r = s.objs r
def rdX : X → List Nat
 | .t n => [n]
 | _ => []
def c0q : Option X → List Nat
 | some x => rdX x
 | none => []
def b6C : List X → List Nat
 | [] => []
 | x :: xs => rdX x ++ b6C xs
def MO.rd : MO → List Nat
 | .mv x | .nck x | .not x | .neg x | .conv _ x | .cvs x | .bts x | .fad x _ | .fld x _ _ _ | .ld x _ _ | .ext x _ | .len x | .lens x | .isn _ x => rdX x
 | .pick c a b => rdX c ++ (rdX a ++ rdX b)
 | .bin _ x y | .bnb _ x y | .eqs _ _ x y | .iad x y _ | .ixs x y | .ixa x y _ _ _ | .mnx _ x y => rdX x ++ rdX y
 | .slc x lo hi _ | .slcs x lo hi => rdX x ++ (c0q lo ++ c0q hi)
 | .slc3 x lo hi mx _ => rdX x ++ (c0q lo ++ (c0q hi ++ c0q mx))
 | .mkf _ caps => b6C caps
 | .mlk _ x k _ _ => rdX x ++ rdX k
section
variable {s s' : St}
theorem A5 {x : X} (ht : ∀ t ∈ rdX x, s'.tmps t = s.tmps t) : s'.get x = s.get x := by
 cases x <;> first | rfl | exact ht _ (by simp [rdX])
theorem a2k : ∀ {xs : List X} (ht : ∀ t ∈ b6C xs, s'.tmps t = s.tmps t), xs.map s'.get = xs.map s.get
 | [], _ => rfl
 | x :: xs, ht => by
  simp only [List.map_cons]
  rw [A5 (fun t h => ht t (by simp [b6C, h])), a2k (fun t h => ht t (by simp [b6C, h]))]
theorem B0 (hk : a3K s) (x : X) : Kn s.objs (s.get x) := by
 cases x with
 | t n => exact hk.tmps n
 | c v => exact F1
 | f n => exact c1s (by simp)
theorem B8 (ha : Agr s s') {c : AV} (hk : Kn s.objs c) : s'.view c = s.view c := by
 cases c with
 | val src v =>
  cases src with
  | none => rfl
  | some r => simp only [St.view]; rw [ha r (hk r .val)]
 | _ => rfl
theorem a4N (ha : Agr s s') {r off len : Nat} (hk : Kn s.objs (.sl r off len)) : s'.objs r = s.objs r := ha r (hk r .sl)
theorem a9u (ha : Agr s s') {r i f : Nat} (hk : Kn s.objs (.ptr r i f)) : s'.objs r = s.objs r := ha r (hk r .ptr)
theorem a4H (ha : Agr s s') (hk : a3K s) {d : Nat} {x : Option X} (ht : ∀ t ∈ c0q x, s'.tmps t = s.tmps t) : bnd s' d x = bnd s d x := by
 cases x with
 | none => rfl
 | some x => simp only [bnd]; rw [A5 ht, B8 ha (B0 hk x)]
theorem b5t (ha : Agr s s') {c : AV} (hk : Kn s.objs c) : b1p s' c = b1p s c := by
 cases c with
 | agg cs => rfl
 | _ => simp only [b1p]; rw [B8 ha hk]
theorem c0W (ha : Agr s s') {c : AV} (hk : Kn s.objs c) : b3P s' c = b3P s c := by
 cases c with
 | mp r => simp only [b3P]; rw [ha r (hk r .mp)]
 | _ => simp only [b3P, B8 ha hk]
theorem c2I (ha : Agr s s') {c : AV} (hk : Kn s.objs c) : b4O s' c = b4O s c := by
 simp only [b4O, B8 ha hk]
theorem c1A (ha : Agr s s') (hk : a3K s) {m : MO} (ht : ∀ t ∈ m.rd, s'.tmps t = s.tmps t) : ev s' m = ev s m := by
 cases m <;> simp only [MO.rd] at ht
 case mv x => simp only [ev]; rw [A5 ht]
 case pick c a b =>
  simp only [ev]
  rw [A5 (x := c) (fun t h => ht t (by simp [h])), A5 (x := a) (fun t h => ht t (by simp [h])), A5 (x := b) (fun t h => ht t (by simp [h])), B8 ha (B0 hk c)]
 case nck x =>
  have hkx := B0 hk x
  simp only [ev]; rw [A5 ht]
  generalize s.get x = c at hkx
  cases c with
  | ptr r i f => simp only; rw [a9u ha hkx]
  | _ => simp only [B8 ha hkx]
 case bin op x y => simp only [ev]; rw [A5 (x := x) (fun t h => ht t (by simp [h])), A5 (x := y) (fun t h => ht t (by simp [h])), B8 ha (B0 hk x), B8 ha (B0 hk y)]
 case bnb n x y => simp only [ev]; rw [A5 (x := x) (fun t h => ht t (by simp [h])), A5 (x := y) (fun t h => ht t (by simp [h])), B8 ha (B0 hk x), B8 ha (B0 hk y)]
 case eqs n ks x y =>
  simp only [ev]; rw [A5 (x := x) (fun t h => ht t (by simp [h])), A5 (x := y) (fun t h => ht t (by simp [h])), b5t ha (B0 hk x), b5t ha (B0 hk y)]
 case not x => simp only [ev]; rw [A5 ht, B8 ha (B0 hk x)]
 case neg x => simp only [ev]; rw [A5 ht, B8 ha (B0 hk x)]
 case conv k x => simp only [ev]; rw [A5 ht, B8 ha (B0 hk x)]
 case cvs x => simp only [ev]; rw [A5 ht, B8 ha (B0 hk x)]
 case bts x =>
  have hkx := B0 hk x
  simp only [ev]; rw [A5 ht]
  generalize s.get x = c at hkx
  cases c with
  | sl r off len => simp only; rw [a4N ha hkx]
  | _ => simp only [B8 ha hkx]
 case fad x f =>
  have hkx := B0 hk x
  simp only [ev]; rw [A5 ht]
  generalize s.get x = c at hkx
  cases c with
  | ptr r i f => simp only; rw [a9u ha hkx]
  | _ => simp only [B8 ha hkx]
 case fld x f n ag =>
  have hkx := B0 hk x
  simp only [ev]; rw [A5 ht]
  generalize s.get x = c at hkx
  cases c <;> simp only [B8 ha hkx]
 case iad x i sz =>
  have hkx := B0 hk x
  simp only [ev]; rw [A5 (x := x) (fun t h => ht t (by simp [h])), A5 (x := i) (fun t h => ht t (by simp [h])), B8 ha (B0 hk i)]
  generalize s.get x = c at hkx
  cases c with
  | sl r off len => simp only; rw [a4N ha hkx]
  | _ => simp only [B8 ha hkx]
 case ixs x i => simp only [ev]; rw [A5 (x := x) (fun t h => ht t (by simp [h])), A5 (x := i) (fun t h => ht t (by simp [h])), B8 ha (B0 hk x), B8 ha (B0 hk i)]
 case ixa x i l sz ag =>
  have hkx := B0 hk x
  simp only [ev]; rw [A5 (x := x) (fun t h => ht t (by simp [h])), A5 (x := i) (fun t h => ht t (by simp [h])), B8 ha (B0 hk i)]
  generalize s.get x = c at hkx
  cases c <;> simp only [B8 ha hkx]
 case ld x n ag =>
  have hkx := B0 hk x
  simp only [ev]; rw [A5 ht]
  generalize s.get x = c at hkx
  cases c with
  | ptr r i f => simp only; rw [a9u ha hkx]
  | _ => simp only [B8 ha hkx]
 case slc x lo hi sz =>
  have hkx := B0 hk x
  simp only [ev]
  rw [A5 (x := x) (fun t h => ht t (by simp [h]))]
  have e1 : ∀ d, bnd s' d lo = bnd s d lo := fun d => a4H ha hk (fun t h => ht t (by simp [h]))
  have e2 : ∀ d, bnd s' d hi = bnd s d hi := fun d => a4H ha hk (fun t h => ht t (by simp [h]))
  generalize s.get x = c at hkx
  cases c with
  | sl r off len => simp only [e1, e2]; rw [a4N ha hkx]
  | _ => simp only [B8 ha hkx, e1, e2]
 case slc3 x lo hi mx sz =>
  have hkx := B0 hk x
  simp only [ev]
  rw [A5 (x := x) (fun t h => ht t (by simp [h]))]
  have e1 : ∀ d, bnd s' d lo = bnd s d lo := fun d => a4H ha hk (fun t h => ht t (by simp [h]))
  have e2 : ∀ d, bnd s' d hi = bnd s d hi := fun d => a4H ha hk (fun t h => ht t (by simp [h]))
  have e3 : ∀ d, bnd s' d mx = bnd s d mx := fun d => a4H ha hk (fun t h => ht t (by simp [h]))
  generalize s.get x = c at hkx
  cases c with
  | sl r off len => simp only [e1, e2, e3]; rw [a4N ha hkx]
  | _ => rfl
 case slcs x lo hi =>
  simp only [ev]
  rw [A5 (x := x) (fun t h => ht t (by simp [h])), B8 ha (B0 hk x)]
  have e1 : ∀ d, bnd s' d lo = bnd s d lo := fun d => a4H ha hk (fun t h => ht t (by simp [h]))
  have e2 : ∀ d, bnd s' d hi = bnd s d hi := fun d => a4H ha hk (fun t h => ht t (by simp [h]))
  simp only [e1, e2]
 case ext x j => simp only [ev]; rw [A5 ht]
 case len x =>
  have hkx := B0 hk x
  simp only [ev]; rw [A5 ht]
  generalize s.get x = c at hkx
  cases c with
  | sl r off len => simp only; rw [a4N ha hkx]
  | _ => simp only [B8 ha hkx]
 case lens x => simp only [ev]; rw [A5 ht, B8 ha (B0 hk x)]
 case isn neg x =>
  have hkx := B0 hk x
  simp only [ev]; rw [A5 ht]
  generalize s.get x = c at hkx
  cases c with
  | sl r off len => simp only; rw [a4N ha hkx]
  | _ => simp only [B8 ha hkx]
 case mnx mx x y => simp only [ev]; rw [A5 (x := x) (fun t h => ht t (by simp [h])), A5 (x := y) (fun t h => ht t (by simp [h])), B8 ha (B0 hk x), B8 ha (B0 hk y)]
 case mkf f caps => simp only [ev]; rw [a2k ht]
 case mlk kd x k z ok => simp only [ev]; rw [A5 (x := x) (fun t h => ht t (by simp [h])), A5 (x := k) (fun t h => ht t (by simp [h])), c0W ha (B0 hk x), c2I ha (B0 hk k)]
theorem a1d {f g : AV → Option V} : ∀ {cs : List AV} (h : ∀ c ∈ cs, f c = g c), trav f cs = trav g cs
 | [], _ => rfl
 | c :: cs, h => by simp only [trav]; rw [h c (by simp), a1d (fun c hc => h c (by simp [hc]))]
theorem a5R (ha : Agr s s') (hk : a3K s) {ln : Bool} : ∀ (k : Nat) {c : AV}, Kn s.objs c → snap ln s' k c = snap ln s k c
 | 0, _, _ => rfl
 | k + 1, c, hc => by
  have ih : ∀ {c : AV}, Kn s.objs c → snap ln s' k c = snap ln s k c := fun h => a5R ha hk (ln := ln) k h
  cases c with
  | val src v =>
   cases src with
   | none => rfl
   | some r => simp only [snap]; rw [ha r (hc r .val)]
  | sl r off len => simp only [snap]; rw [a4N ha hc]
  | ptr r i f =>
   simp only [snap]; rw [a9u ha hc]
   cases ho : s.objs r with
   | none => rfl
   | some o =>
    cases o with
    | row own sz L => rfl
    | dead => rfl
    | map es => rfl
    | box cs =>
     simp only
     rw [a1d (fun c hm => ih (hk.box r cs ho c hm))]
  | agg cs => simp only [snap]; rw [a1d (fun c hm => ih (fun q hq => hc q (.agg hm hq)))]
  | tup cs => rfl
  | fn f cs => simp only [snap]; rw [a1d (fun c hm => ih (fun q hq => hc q (.fn hm hq)))]
  | bad => rfl
  | ub => rfl
  | e0 => rfl
  | mp r => simp only [snap]; rw [ha r (hc r .mp)]
theorem b7h (ha : Agr s s') {c : AV} (hk : Kn s.objs c) : b3U s' c = b3U s c := by
 unfold b3U
 cases c <;> simp only [B8 ha hk]
theorem c4k {c : AV} (hk : Kn s.objs c) {f : Nat} {caps : List AV} (h : b3U s c = some (f, caps)) : ∀ c ∈ caps, Kn s.objs c := by
 unfold b3U at h
 split at h
 ·simp only [Option.some.injEq, Prod.mk.injEq] at h
  obtain ⟨rfl, rfl⟩ := h
  exact fun c hc q hq => hk q (.fn hc hq)
 ·split at h
  ·rename_i src f' cps hv
   simp only [Option.some.injEq, Prod.mk.injEq] at h
   obtain ⟨rfl, rfl⟩ := h
   intro c' hc'
   obtain ⟨v, _, rfl⟩ := List.mem_map.1 hc'
   cases src with
   | none => exact F1
   | some r =>
    refine b2z ?_
    unfold St.view at hv
    split at hv
    ·simp at hv
    ·split at hv
     ·rename_i r' v' hl
      simp only [Option.some.injEq, Prod.mk.injEq] at hv
      obtain ⟨rfl, _⟩ := hv
      intro hn
      rw [hn] at hl
      cases hl
     ·cases hv
    ·cases hv
  ·cases h
theorem a5A (ha : Agr s s') {c : AV} (hk : Kn s.objs c) : a1T s' c = a1T s c := by
 unfold a1T
 cases c with
 | sl r off len => simp only; rw [a4N ha hk]
 | ptr r i f => simp only; rw [a9u ha hk]
 | mp r => simp only; rw [ha r (hk r .mp)]
 | val src v => simp only [B8 ha hk]
 | _ => rfl
def over (o : w9) (G : w9) : w9 := fun q => match G q with
 | some r => some r
 | none => o q
def c0L (id : Nat) (G : w9) : Prop := ∀ q, G q ≠ none → id ≤ q ∧ q < id + 64
theorem a4w (o G : w9) (id : Nat) (r : Root) : upd (over o G) id (some r) = over o (upd G id (some r)) := by
 funext q
 by_cases e : q = id
 ·subst e; simp [j9, over]
 ·simp [w6 e, over]
theorem O1 (o : w9) (id : Nat) (r : Root) : upd o id (some r) = over o (upd (fun _ => none) id (some r)) := a4w o (fun _ => none) id r
theorem b8c (r : R1) (id : Nat) : ∃ av G, ∀ o H, (pl1 id (over o H) r) = (av, over o (over H G)) ∧ ∀ q, G q ≠ none → q = id := by
 cases r with
 | val v => exact ⟨.val none v, fun _ => none, fun o H => ⟨rfl, by simp⟩⟩
 | row own sz L =>
  refine ⟨.sl id 0 L.length, upd (fun _ => none) id (some (.row own sz L)), fun o H => ⟨?_, ?_⟩⟩
  ·simp only [pl1]
   rw [a4w, O1 H]
  ·intro q hq
   by_cases e : q = id
   ·exact e
   ·rw [w6 e] at hq; exact absurd rfl hq
theorem a7u (H G G' : w9) : over (over H G) G' = over H (over G G') := by
 funext q
 simp only [over]
 cases G' q <;> rfl
theorem b5R : ∀ (rs : List R1) (id : Nat), ∃ avs G, ∀ o H, (a7O id (over o H) rs) = (avs, over o (over H G)) ∧ ∀ q, G q ≠ none → id ≤ q ∧ q < id + rs.length
 | [], id => ⟨[], fun _ => none, fun o H => ⟨rfl, by simp⟩⟩
 | r :: rs, id => by
  obtain ⟨av, G, h⟩ := b8c r id
  obtain ⟨avs, G', h'⟩ := b5R rs (id + 1)
  refine ⟨av :: avs, over G G', fun o H => ⟨?_, ?_⟩⟩
  ·simp only [a7O]
   rw [(h o H).1]
   simp only
   rw [(h' o (over H G)).1]
   simp only [a7u]
  ·intro q hq
   simp only [over] at hq
   simp only [List.length_cons]
   cases hg : G' q with
   | some x => have := (h' o H).2 q (by rw [hg]; simp); omega
   | none => rw [hg] at hq; have := (h o H).2 q hq; omega
theorem b5D {n : Nat} (hn : 0 < n) (r : R2) (id : Nat) (hf : r.wide n = true) : ∃ av G, ∀ o H, (pl2 id (over o H) r) = (av, over o (over H G)) ∧ ∀ q, G q ≠ none → id ≤ q ∧ q < id + n := by
 cases r with
 | one r =>
  obtain ⟨av, G, h⟩ := b8c r id
  exact ⟨av, G, fun o H => ⟨(h o H).1, fun q hq => by have := (h o H).2 q hq; omega⟩⟩
 | agg rs =>
  simp only [R2.wide, decide_eq_true_eq] at hf
  obtain ⟨avs, G, h⟩ := b5R rs id
  exact ⟨.agg avs, G, fun o H => ⟨by simp only [pl2]; rw [(h o H).1], fun q hq => by have := (h o H).2 q hq; omega⟩⟩
theorem c2j (r : R2) (id : Nat) (hf : r.fits = true) : ∃ av G, ∀ o H, (pl2 id (over o H) r) = (av, over o (over H G)) ∧ ∀ q, G q ≠ none → id ≤ q ∧ q < id + 16 := b5D (by omega) r id hf
theorem b5z : ∀ (rs : List R2) (id : Nat) (hf : ∀ r ∈ rs, R2.fits r = true), ∃ avs G, ∀ o H, (a7K id (over o H) rs) = (avs, over o (over H G)) ∧ ∀ q, G q ≠ none → id ≤ q ∧ q < id + 16 * rs.length
 | [], id, _ => ⟨[], fun _ => none, fun o H => ⟨rfl, by simp⟩⟩
 | r :: rs, id, hf => by
  obtain ⟨av, G, h⟩ := c2j r id (hf r (by simp))
  obtain ⟨avs, G', h'⟩ := b5z rs (id + 16) (fun r hr => hf r (by simp [hr]))
  refine ⟨av :: avs, over G G', fun o H => ⟨?_, ?_⟩⟩
  ·simp only [a7K]
   rw [(h o H).1]
   simp only
   rw [(h' o (over H G)).1]
   simp only [a7u]
  ·intro q hq
   simp only [over] at hq
   simp only [List.length_cons]
   cases hg : G' q with
   | some x => have := (h' o H).2 q (by rw [hg]; simp); omega
   | none => rw [hg] at hq; have := (h o H).2 q hq; omega
theorem b7z (r : RV) (id : Nat) (hf : r.fits = true) : ∃ av G, c0L id G ∧ ∀ o, plV id o r = (av, over o G) := by
 have e0 : ∀ G : w9, over (fun _ => none) G = G := by
  intro G; funext q; simp only [over]; cases G q <;> rfl
 cases r with
 | one r =>
  obtain ⟨av, G, h⟩ := b5D (n := 64) (by omega) r id hf
  refine ⟨av, G, fun q hq => by have := (h (fun _ => none) (fun _ => none)).2 q hq; omega, fun o => ?_⟩
  have := (h o (fun _ => none)).1
  rw [e0] at this
  exact this
 | tup rs =>
  simp only [RV.fits, Bool.and_eq_true, decide_eq_true_eq, List.all_eq_true] at hf
  obtain ⟨avs, G, h⟩ := b5z rs id hf.2
  refine ⟨.tup avs, G, fun q hq => by have := (h (fun _ => none) (fun _ => none)).2 q hq; omega, fun o => ?_⟩
  have := (h o (fun _ => none)).1
  rw [e0] at this
  simp only [plV]
  have e1 : over o (fun _ => none) = o := rfl
  rw [e1] at this
  rw [this]
theorem b5B (z : V) (n : Nat) (b : Bool) (hz : ¬ (z = .sl 0 [] ∧ b = false)) : ∃ av, ∀ id o, zc1 id o (z, n, b) = (av, o, id) := by
 cases b with
 | true => exact ⟨.bad, fun id o => rfl⟩
 | false =>
  refine ⟨.val none z, fun id o => ?_⟩
  cases z with
  | sl sz L =>
   cases sz with
   | zero => cases L with
    | nil => exact absurd ⟨rfl, rfl⟩ hz
    | cons => rfl
   | succ => rfl
  | _ => rfl
theorem a3M : ∀ (zs : List (V × Nat × Bool)) (id : Nat), ∃ avs G, ∀ o H, zcells id (over o H) zs = (avs, over o (over H G)) ∧ ∀ q, G q ≠ none → id ≤ q ∧ q < id + zs.length
 | [], id => ⟨[], fun _ => none, fun o H => ⟨rfl, by simp⟩⟩
 | (z, n, b) :: zs, id => by
  by_cases hz : z = .sl 0 [] ∧ b = false
  ·obtain ⟨rfl, rfl⟩ := hz
   obtain ⟨avs, G, h⟩ := a3M zs (id + 1)
   refine ⟨.sl id 0 0 :: avs, over (upd (fun _ => none) id (some (.row true n []))) G, fun o H => ⟨?_, ?_⟩⟩
   ·simp only [zcells, zc1]
    rw [a4w, O1 H, (h o _).1]
    simp only [a7u]
   ·intro q hq
    simp only [over] at hq
    simp only [List.length_cons]
    cases hg : G q with
    | some x => have := (h o H).2 q (by rw [hg]; simp); omega
    | none =>
     rw [hg] at hq
     by_cases e : q = id
     ·omega
     ·simp only [w6 e] at hq; exact absurd rfl hq
  ·obtain ⟨avs, G, h⟩ := a3M zs id
   obtain ⟨av, hav⟩ := b5B z n b hz
   refine ⟨av :: avs, G, fun o H => ⟨?_, ?_⟩⟩
   ·simp only [zcells, hav, (h o H).1]
   ·intro q hq
    have := (h o H).2 q hq
    simp only [List.length_cons]
    omega
theorem b5e : ∀ (zs : List (V × Nat × Bool)) (id : Nat) (o : w9), (∀ c ∈ (zcells id o zs).1, Kn (zcells id o zs).2 c) ∧ (∀ q, o q ≠ none → (zcells id o zs).2 q ≠ none) ∧ ∀ q cs, (zcells id o zs).2 q = some (.box cs) → o q = some (.box cs) := by
 intro zs
 induction zs with
 | nil => intro id o; exact ⟨by simp [zcells], fun q h => h, fun q cs h => h⟩
 | cons z zs ih =>
  intro id o
  obtain ⟨z, n, b⟩ := z
  by_cases hz : z = .sl 0 [] ∧ b = false
  ·obtain ⟨rfl, rfl⟩ := hz
   obtain ⟨b1, b2, b3⟩ := ih (id + 1) (upd o id (some (.row true n [])))
   refine ⟨?_, ?_, ?_⟩
   ·intro c hc
    simp only [zcells, zc1] at hc ⊢
    rcases List.mem_cons.1 hc with rfl | hc
    ·exact a5c (b2 id (by simp [j9]))
    ·exact b1 c hc
   ·intro q hq
    simp only [zcells, zc1]
    refine b2 q ?_
    by_cases e : q = id
    ·subst e; simp [j9]
    ·rw [w6 e]; exact hq
   ·intro q cs hq
    simp only [zcells, zc1] at hq
    have := b3 q cs hq
    by_cases e : q = id
    ·subst e; rw [j9] at this; cases this
    ·rw [w6 e] at this; exact this
  ·obtain ⟨av, hav⟩ := b5B z n b hz
   obtain ⟨b1, b2, b3⟩ := ih id o
   simp only [zcells, hav]
   refine ⟨?_, b2, b3⟩
   intro c hc
   rcases List.mem_cons.1 hc with rfl | hc
   ·cases b with
    | true =>
     have := hav id o
     simp only [zc1, Prod.mk.injEq] at this
     rw [← this.1]
     exact b8D
    | false =>
     have : c = .val none z := by
      have h1 := hav id o
      unfold zc1 at h1
      split at h1
      ·rename_i h; simp at h
      ·rename_i h
       simp only [Prod.mk.injEq] at h
       obtain ⟨rfl, rfl, _⟩ := h
       split at h1
       ·exact absurd ⟨rfl, rfl⟩ hz
       ·simp only [Prod.mk.injEq] at h1; exact h1.1.symm
     rw [this]
     exact F1
   ·exact b1 c hc
end
end Go.Ab
set_option linter.unusedVariables false
set_option linter.unusedSimpArgs false
namespace Go.Ab
open Go.RowKit
def FO.soft : FO → Bool
 | .box _ | .alloc _ | .bld _ _ | .nilrow _ | .nilof _ _ | .mks _ _ _ _ _ | .bslp _ _ | .mkm | .bsle _ | .app0 _ _ _ _ => true
 | _ => false
def FO.rd : FO → List Nat
 | .box x | .nilof x _ => rdX x
 | .alloc _ | .nilrow _ => []
 | .bld _ ps => ps.flatMap fun p => rdX p.2.2
 | .mks _ _ _ l c => rdX l ++ rdX c
 | .bsl _ xs => b6C xs
 | .bslp _ xs => b6C xs
 | .app x y _ _ _ => rdX x ++ rdX y
 | .st x v _ => rdX x ++ rdX v
 | .clr x _ _ => rdX x
 | .mkm => []
 | .mpu _ x k v => rdX x ++ (rdX k ++ rdX v)
 | .men _ x k _ => rdX x ++ rdX k
 | .mes x t v => rdX x ++ (rdX t ++ rdX v)
 | .bsle _ => []
 | .app0 x y _ _ => rdX x ++ rdX y
def AO.soft : AO → Bool
 | .f m => m.soft
 | .p k _ => !k
 | .call k _ _ => !k
 | _ => true
def AO.rd : AO → List Nat
 | .p _ m => m.rd
 | .f m => m.rd
 | .call _ _ xs => b6C xs
 | .callv g xs => rdX g ++ b6C xs
def MI.rd (m : MI) : List Nat := (match m.gd with
 | some (d, _) => [d]
 | none => []) ++ m.op.rd
section
variable {P : Program} {s s' : St}
theorem b6q {c : AV} {cs : List AV} {o : w9} (h : ∀ c ∈ cs, Kn o c) {j : Nat} (hj : cs[j]? = some c) : Kn o c := h c (List.mem_of_getElem? hj)
theorem b0q {src : Option Nat} {c : AV} (hc : Kn s.objs c) {v u : V} (hv : s.view c = some (src, v)) : Kn s.objs (.val src u) := by
 cases src with
 | none => exact F1
 | some r =>
  refine b2z ?_
  unfold St.view at hv
  split at hv
  ·simp at hv
  ·split at hv
   ·rename_i r' v' hl
    simp only [Option.some.injEq, Prod.mk.injEq] at hv
    obtain ⟨rfl, _⟩ := hv
    intro hn
    rw [hn] at hl
    cases hl
   ·cases hv
  ·cases hv
theorem b7o {src : Option Nat} {c : AV} (hc : Kn s.objs c) {v u : V} (hv : s.view c = some (src, v)) : Kn s.objs (mk src u) := by
 unfold mk
 split
 ·exact F1
 ·exact b0q hc hv
theorem c6z {r : Nat} {u : V} (h : s.objs r ≠ none) : Kn s.objs (mk (some r) u) := by
 unfold mk
 split
 ·exact F1
 ·exact b2z h
theorem c8o (hk : a3K s) {m : MO} {av : AV} (h : ev s m = some av) : Kn s.objs av := by
 cases m <;> simp only [ev] at h
 case mv x => simp only [Option.some.injEq] at h; subst h; exact B0 hk x
 case pick c a b =>
  split at h
  ·simp only [Option.some.injEq] at h; subst h
   split <;> exact B0 hk _
  ·cases h
 case nck x =>
  have hx := B0 hk x
  split at h
  ·rename_i hq
   rw [hq] at hx
   split at h
   ·simp only [Option.some.injEq] at h; subst h; exact hx
   ·cases h
  ·rename_i hq
   rw [hq] at hx
   simp only [Option.some.injEq] at h; subst h; exact hx
  ·split at h
   ·rename_i hv
    simp only [Option.some.injEq] at h; subst h
    exact b0q hx hv
   ·rename_i hv
    simp only [Option.some.injEq] at h; subst h
    exact b0q hx hv
   ·cases h
 case bin op x y =>
  split at h
  ·obtain ⟨r, _, rfl⟩ := Option.map_eq_some_iff.1 h; exact F1
  ·cases h
 case bnb n x y =>
  split at h
  ·simp only [Option.some.injEq] at h; subst h; exact F1
  ·cases h
 case eqs n ks x y =>
  split at h
  ·split at h
   ·simp only [Option.some.injEq] at h; subst h; exact F1
   ·cases h
  ·cases h
 case not x =>
  split at h
  ·simp only [Option.some.injEq] at h; subst h; exact F1
  ·cases h
 case neg x =>
  split at h
  ·simp only [Option.some.injEq] at h; subst h; exact F1
  ·cases h
 case conv k x =>
  split at h
  ·simp only [Option.some.injEq] at h; subst h; exact F1
  ·cases h
 case cvs x =>
  split at h
  ·simp only [Option.some.injEq] at h; subst h; exact F1
  ·cases h
 case bts x =>
  split at h
  ·split at h
   ·split at h
    ·split at h
     ·simp only [Option.some.injEq] at h; subst h; exact F1
     ·cases h
    ·cases h
   ·cases h
  ·split at h
   ·split at h
    ·split at h
     ·simp only [Option.some.injEq] at h; subst h; exact F1
     ·cases h
    ·cases h
   ·cases h
 case fad x f =>
  have hx := B0 hk x
  split at h
  ·rename_i hq
   rw [hq] at hx
   split at h
   ·simp only [Option.some.injEq] at h; subst h; exact b3N (hx _ .ptr)
   ·cases h
  ·split at h
   ·rename_i hv
    simp only [Option.some.injEq] at h; subst h
    exact b0q hx hv
   ·cases h
 case fld x f n ag =>
  have hx := B0 hk x
  split at h
  ·rename_i cs hq
   rw [hq] at hx
   have hcs : ∀ c ∈ cs, Kn s.objs c := fun c hc q hm => hx q (.agg hc hm)
   split at h
   ·split at h
    ·simp only [Option.some.injEq] at h; subst h
     exact b1g (fun c hc => hcs c (List.mem_of_mem_drop (List.mem_of_mem_take hc)))
    ·cases h
   ·exact b6q hcs h
  ·split at h
   ·rename_i hv
    obtain ⟨u, _, rfl⟩ := Option.map_eq_some_iff.1 h
    exact b7o hx hv
   ·cases h
 case iad x i sz =>
  have hx := B0 hk x
  split at h
  ·cases h
  ·split at h
   ·split at h
    ·rename_i hq
     rw [hq] at hx
     split at h
     ·split at h
      ·simp only [Option.some.injEq] at h; subst h; exact b3N (hx _ .sl)
      ·cases h
     ·cases h
    ·split at h
     ·rename_i hv
      split at h
      ·split at h
       ·simp only [Option.some.injEq] at h; subst h; exact b0q hx hv
       ·cases h
      ·cases h
     ·cases h
   ·cases h
 case ixs x i =>
  split at h
  ·split at h
   ·split at h
    ·simp only [Option.some.injEq] at h; subst h; exact F1
    ·cases h
   ·cases h
  ·cases h
 case ixa x i l sz ag =>
  have hx := B0 hk x
  split at h
  ·cases h
  ·split at h
   ·split at h
    ·rename_i cs hq
     rw [hq] at hx
     have hcs : ∀ c ∈ cs, Kn s.objs c := fun c hc q hm => hx q (.agg hc hm)
     split at h
     ·split at h
      ·simp only [Option.some.injEq] at h; subst h
       exact b1g (fun c hc => hcs c (List.mem_of_mem_drop (List.mem_of_mem_take hc)))
      ·cases h
     ·exact b6q hcs h
    ·split at h
     ·rename_i hv
      obtain ⟨u, _, rfl⟩ := Option.map_eq_some_iff.1 h
      exact b7o hx hv
     ·cases h
   ·cases h
 case ld x n ag =>
  have hx := B0 hk x
  split at h
  ·rename_i r i f hq
   rw [hq] at hx
   split at h
   ·split at h
    ·obtain ⟨u, _, rfl⟩ := Option.map_eq_some_iff.1 h
     exact c6z (hx _ .ptr)
    ·cases h
   ·rename_i cs ho
    have hcs := hk.box r cs ho
    split at h
    ·split at h
     ·simp only [Option.some.injEq] at h; subst h
      exact b1g (fun c hc => hcs c (List.mem_of_mem_drop (List.mem_of_mem_take hc)))
     ·cases h
    ·exact b6q hcs h
   ·cases h
  ·split at h
   ·rename_i hv
    obtain ⟨u, _, rfl⟩ := Option.map_eq_some_iff.1 h
    exact b7o hx hv
   ·cases h
 case slc3 x lo hi mx sz =>
  split at h
  ·split at h
   ·split at h
    ·split at h
     ·simp only [Option.some.injEq] at h; subst h; exact b8D
     ·cases h
    ·cases h
   ·cases h
  ·cases h
 case slc x lo hi sz =>
  have hx := B0 hk x
  split at h
  ·rename_i hq
   rw [hq] at hx
   split at h
   ·split at h
    ·split at h
     ·simp only [Option.some.injEq] at h; subst h; exact a5c (hx _ .sl)
     ·cases h
    ·cases h
   ·cases h
  ·split at h
   ·rename_i hv
    split at h
    ·split at h
     ·simp only [Option.some.injEq] at h; subst h; exact b0q hx hv
     ·cases h
    ·cases h
   ·cases h
 case slcs x lo hi =>
  split at h
  ·split at h
   ·split at h
    ·simp only [Option.some.injEq] at h; subst h; exact F1
    ·cases h
   ·cases h
  ·cases h
 case ext x j =>
  have hx := B0 hk x
  split at h
  ·rename_i cs hq
   rw [hq] at hx
   exact b6q (fun c hc q hm => hx q (.tup hc hm)) h
  ·cases h
 case len x =>
  split at h
  ·split at h
   ·simp only [Option.some.injEq] at h; subst h; exact F1
   ·cases h
  ·split at h
   ·simp only [Option.some.injEq] at h; subst h; exact F1
   ·cases h
 case isn neg x =>
  split at h
  ·split at h
   ·simp only [Option.some.injEq] at h; subst h; split
    ·exact c1H
    ·exact F1
   ·cases h
  ·split at h
   ·simp only [Option.some.injEq] at h; subst h; split
    ·exact c1H
    ·exact F1
   ·cases h
 case lens x =>
  split at h
  ·simp only [Option.some.injEq] at h; subst h; exact F1
  ·cases h
 case mnx mx x y =>
  split at h
  ·simp only [Option.some.injEq] at h; subst h; exact F1
  ·cases h
 case mkf f caps =>
  simp only [Option.some.injEq] at h; subst h
  exact c1s (fun c hc => by obtain ⟨x, _, rfl⟩ := List.mem_map.1 hc; exact B0 hk x)
 case mlk kd x k z ok =>
  have two : ∀ (a b : V), Kn s.objs (.tup [.val none a, .val none b]) := fun a b => b6z (fun c hc => by
   rcases List.mem_cons.1 hc with rfl | hc
   ·exact F1
   ·rw [List.mem_singleton.1 hc]; exact F1)
  split at h
  ·split at h
   ·simp only [Option.some.injEq] at h; subst h
    split
    ·exact two _ _
    ·exact F1
   ·simp only [Option.some.injEq] at h; subst h
    split
    ·exact two _ _
    ·exact F1
   ·cases h
  ·cases h
theorem a3W {o G : w9} {c : AV} (h : Kn o c) : Kn (over o G) c := by
 intro r hr
 simp only [over]
 cases G r with
 | some x => simp
 | none => exact h r hr
theorem b3O (hk : a3K s) {c : AV} (hc : Kn s.objs c) {cs : List AV} (h : a1T s c = some cs) : ∀ c ∈ cs, Kn s.objs c := by
 unfold a1T at h
 split at h
 ·simp only [Option.some.injEq] at h; subst h
  exact fun c hm q hq => hc q (.agg hm hq)
 ·simp only [Option.some.injEq] at h; subst h
  intro c hm; rw [List.mem_singleton] at hm; subst hm; exact hc
 ·split at h
  ·simp only [Option.some.injEq] at h; subst h
   intro c hm; rw [List.mem_singleton] at hm; subst hm; exact hc
  ·cases h
 ·split at h
  ·simp only [Option.some.injEq] at h; subst h
   intro c hm; rw [List.mem_singleton] at hm; subst hm; exact hc
  ·cases h
 ·split at h
  ·simp only [Option.some.injEq] at h; subst h
   intro c hm; rw [List.mem_singleton] at hm; subst hm; exact hc
  ·cases h
 ·split at h
  ·rename_i hv
   simp only [Option.some.injEq] at h; subst h
   intro c hm
   obtain ⟨u, _, rfl⟩ := List.mem_map.1 hm
   exact b7o hc hv
  ·rename_i hv
   simp only [Option.some.injEq] at h; subst h
   intro c hm; rw [List.mem_singleton] at hm; subst hm
   exact b7o hc hv
  ·cases h
 ·cases h
theorem c2Y {r : RV} {id : Nat} {o : w9} (hf : r.fits = true) : (∀ q, live (o q) = true ∨ True) → Kn (plV id o r).2 (plV id o r).1 ∧ ∀ q cs, (plV id o r).2 q = some (.box cs) → o q = some (.box cs) := by
 intro _
 have k1 : ∀ (r : R1) (id : Nat) (o : w9), Kn (pl1 id o r).2 (pl1 id o r).1 ∧ (∀ q, o q ≠ none → (pl1 id o r).2 q ≠ none) ∧ ∀ q cs, (pl1 id o r).2 q = some (.box cs) → o q = some (.box cs) := by
  intro r id o
  cases r with
  | val v => exact ⟨F1, fun q h => h, fun q cs h => h⟩
  | row own sz L =>
   refine ⟨a5c (by simp [pl1, j9]), fun q h => ?_, fun q cs h => ?_⟩
   ·simp only [pl1]
    by_cases e : q = id
    ·subst e; simp [j9]
    ·rw [w6 e]; exact h
   ·simp only [pl1] at h
    by_cases e : q = id
    ·subst e; rw [j9] at h; cases h
    ·rw [w6 e] at h; exact h
 have up : ∀ {o o' : w9} {c : AV}, (∀ q, o q ≠ none → o' q ≠ none) → Kn o c → Kn o' c := fun h hk r hr => h r (hk r hr)
 have k1L : ∀ (rs : List R1) (id : Nat) (o : w9), (∀ c ∈ (a7O id o rs).1, Kn (a7O id o rs).2 c) ∧ (∀ q, o q ≠ none → (a7O id o rs).2 q ≠ none) ∧ ∀ q cs, (a7O id o rs).2 q = some (.box cs) → o q = some (.box cs) := by
  intro rs
  induction rs with
  | nil => intro id o; exact ⟨by simp [a7O], fun q h => h, fun q cs h => h⟩
  | cons r rs ih =>
   intro id o
   obtain ⟨a1, a2, a3⟩ := k1 r id o
   obtain ⟨b1, b2, b3⟩ := ih (id + 1) (pl1 id o r).2
   refine ⟨?_, fun q h => b2 q (a2 q h), fun q cs h => a3 q cs (b3 q cs h)⟩
   intro c hc
   simp only [a7O] at hc ⊢
   rcases List.mem_cons.1 hc with rfl | hc
   ·exact up b2 a1
   ·exact b1 c hc
 have k2 : ∀ (r : R2) (id : Nat) (o : w9), Kn (pl2 id o r).2 (pl2 id o r).1 ∧ (∀ q, o q ≠ none → (pl2 id o r).2 q ≠ none) ∧ ∀ q cs, (pl2 id o r).2 q = some (.box cs) → o q = some (.box cs) := by
  intro r id o
  cases r with
  | one r => exact k1 r id o
  | agg rs =>
   obtain ⟨a1, a2, a3⟩ := k1L rs id o
   exact ⟨b1g a1, a2, a3⟩
 have k2L : ∀ (rs : List R2) (id : Nat) (o : w9), (∀ c ∈ (a7K id o rs).1, Kn (a7K id o rs).2 c) ∧ (∀ q, o q ≠ none → (a7K id o rs).2 q ≠ none) ∧ ∀ q cs, (a7K id o rs).2 q = some (.box cs) → o q = some (.box cs) := by
  intro rs
  induction rs with
  | nil => intro id o; exact ⟨by simp [a7K], fun q h => h, fun q cs h => h⟩
  | cons r rs ih =>
   intro id o
   obtain ⟨a1, a2, a3⟩ := k2 r id o
   obtain ⟨b1, b2, b3⟩ := ih (id + 16) (pl2 id o r).2
   refine ⟨?_, fun q h => b2 q (a2 q h), fun q cs h => a3 q cs (b3 q cs h)⟩
   intro c hc
   simp only [a7K] at hc ⊢
   rcases List.mem_cons.1 hc with rfl | hc
   ·exact up b2 a1
   ·exact b1 c hc
 cases r with
 | one r => exact ⟨(k2 r id o).1, (k2 r id o).2.2⟩
 | tup rs => exact ⟨b6z (k2L rs id o).1, (k2L rs id o).2.2⟩
end
end Go.Ab
set_option linter.unusedVariables false
set_option linter.unusedSimpArgs false
namespace Go.Ab
open Go.RowKit
section
variable {P : Program} {N : Fr} {w0 : Base} {D0 : q9} {E : Env} {st : St} {a : Act} {w : World} {s : St}
theorem b0P {s s' : St} (ha : Agr s s') (hk : a3K s) : ∀ (ps : List (Nat × Nat × X)) (cs : List AV) (ht : ∀ t ∈ (ps.flatMap fun p => rdX p.2.2), s'.tmps t = s.tmps t), a4Y s' ps cs = a4Y s ps cs
 | [], cs, _ => rfl
 | (off, n, x) :: ps, cs, ht => by
  simp only [List.flatMap_cons, List.mem_append] at ht
  simp only [a4Y]
  rw [A5 (fun t h => ht t (.inl h)), a5A ha (B0 hk x)]
  split
  ·split
   ·exact b0P ha hk ps _ (fun t h => ht t (.inr h))
   ·rfl
  ·rfl
theorem b7b {s : St} {G : w9} (hk : a3K s) : ∀ (ps : List (Nat × Nat × X)) (cs : List AV) {cs' : List AV} (h : ∀ c ∈ cs, Kn (over s.objs G) c), a4Y s ps cs = some cs' → ∀ c ∈ cs', Kn (over s.objs G) c
 | [], cs, cs', h, he => by
  simp only [a4Y, Option.some.injEq] at he; subst he; exact h
 | (off, n, x) :: ps, cs, cs', h, he => by
  simp only [a4Y] at he
  split at he
  ·rename_i us hus
   split at he
   ·refine b7b hk ps _ ?_ he
    intro c hc
    simp only [List.mem_append] at hc
    rcases hc with (hc | hc) | hc
    ·exact h c (List.mem_of_mem_take hc)
    ·exact a3W (b3O hk (B0 hk x) hus c hc)
    ·exact h c (List.mem_of_mem_drop hc)
   ·cases he
  ·cases he
theorem b9N {r sz : Nat} {o o' : w9} {y : AV} {L : List V} {f : Bool} {o2 : w9} (h : ∀ q, b0i y q → o' q = o q) (hs : a3B r o sz false y = some (L, f, o2)) : o2 = o ∧ a3B r o' sz false y = some (L, f, o') := by
 unfold a3B at hs ⊢
 split at hs
 ·rename_i r2 off len
  have e := h r2 .sl
  split at hs
  ·rename_i own2 sz2 L2 hr
   split at hs
   ·cases hs
   ·rename_i hn
    simp only [Bool.false_eq_true, if_false] at hs
    split at hs
    ·rename_i hp
     simp only [Option.some.injEq, Prod.mk.injEq] at hs
     obtain ⟨rfl, rfl, rfl⟩ := hs
     refine ⟨rfl, ?_⟩
     simp only [e, hr, hn, if_false, Bool.false_eq_true, hp, if_true]
    ·cases hs
  ·cases hs
 ·split at hs
  ·split at hs
   ·cases hs
   ·rename_i hn
    simp only [Option.some.injEq, Prod.mk.injEq] at hs
    obtain ⟨rfl, rfl, rfl⟩ := hs
    exact ⟨rfl, by simp only [hn, if_false]⟩
  ·cases hs
 ·rename_i q v
  have e := h q .val
  split at hs
  ·split at hs
   ·cases hs
   ·rename_i hn
    simp only [Option.some.injEq, Prod.mk.injEq] at hs
    obtain ⟨rfl, rfl, rfl⟩ := hs
    exact ⟨rfl, by simp only [e, hn, if_false]⟩
  ·cases hs
 ·cases hs
theorem c6l (hk : a3K s) {s0 : St} (ha : Agr s s0) {id : Nat} {m : AO} (hs : m.soft = true) (ht : ∀ t ∈ m.rd, s0.tmps t = s.tmps t) {av : AV} {ob : w9} (h : a0M P s0 id m av ob) :
  ∃ G, c0L id G ∧ ob = over s0.objs G ∧ (∀ s2 : St, Agr s s2 → (∀ t ∈ m.rd, s2.tmps t = s.tmps t) → a0M P s2 id m av (over s2.objs G)) ∧ Kn (over s.objs G) av ∧ (∀ q cs, G q = some (.box cs) → ∀ c ∈ cs, Kn (over s.objs G) c) := by
 have e0 : ∀ G : w9, over (fun _ => none) G = G := by intro G; funext q; simp only [over]; cases G q <;> rfl
 have slot1 : ∀ (id : Nat) (r : Root), c0L id (upd (fun _ => none) id (some r)) := by
  intro id r q hq
  by_cases e : q = id
  ·omega
  ·rw [w6 e] at hq; exact absurd rfl hq
 cases m with
 | p m =>
  obtain ⟨h1, rfl⟩ := h
  rw [c1A ha hk ht] at h1
  refine ⟨fun _ => none, fun q hq => absurd rfl hq, rfl, fun s2 ha2 ht2 => ⟨by rw [c1A ha2 hk ht2]; exact h1, rfl⟩, c8o hk h1, fun q cs h => by cases h⟩
 | f m =>
  cases m <;> simp only [AO.soft, FO.soft] at hs <;> try (cases hs; done)
  case box x =>
   simp only [a0M, eff] at h
   simp only [AO.rd, FO.rd] at ht
   split at h
   ·rename_i cs hcs
    simp only [Option.some.injEq, Prod.mk.injEq] at h
    obtain ⟨rfl, rfl⟩ := h
    rw [A5 ht, a5A ha (B0 hk x)] at hcs
    have hkn := b3O hk (B0 hk x) hcs
    refine ⟨upd (fun _ => none) id (some (.box cs)), slot1 _ _, O1 _ _ _, fun s2 ha2 ht2 => ?_, b3N (by simp [over, j9]), ?_⟩
    ·simp only [AO.rd, FO.rd] at ht2
     simp only [a0M, eff]
     rw [A5 ht2, a5A ha2 (B0 hk x), hcs]
     simp only
     rw [O1 s2.objs]
    ·intro q cs' h c hc
     by_cases e : q = id
     ·subst e
      rw [j9] at h
      simp only [Option.some.injEq, Root.box.injEq] at h
      subst h
      exact a3W (hkn c hc)
     ·rw [w6 e] at h; cases h
   ·cases h
  case alloc zs =>
   simp only [a0M, eff] at h
   split at h
   ·rename_i hlen
    simp only [Option.some.injEq, Prod.mk.injEq] at h
    obtain ⟨rfl, rfl⟩ := h
    obtain ⟨avs, G, hG⟩ := a3M zs (id + 1)
    have hz : ∀ o : w9, zcells (id + 1) o zs = (avs, over o G) := by
     intro o
     have := (hG o (fun _ => none)).1
     rw [e0] at this
     exact this
    have hGs : ∀ q, G q ≠ none → id + 1 ≤ q ∧ q < id + 1 + zs.length := fun q hq => (hG (fun _ => none) (fun _ => none)).2 q hq
    have hkz0 := b5e zs (id + 1) s.objs
    rw [hz] at hkz0
    refine ⟨upd G id (some (.box avs)), ?_, ?_, fun s2 _ _ => ?_, b3N (by simp [over, j9]), ?_⟩
    ·intro q hq
     by_cases e : q = id
     ·omega
     ·rw [w6 e] at hq
      have := hGs q hq
      omega
    ·rw [hz]; simp only; rw [a4w]
    ·simp only [a0M, eff, hlen, if_true, hz, a4w]
    ·intro q cs h c hc
     have up : Kn (over s.objs G) c → Kn (over s.objs (upd G id (some (.box avs)))) c := by
      intro hk0 r hr
      rw [← a4w]
      by_cases e : r = id
      ·subst e; simp [j9]
      ·rw [w6 e]; exact hk0 r hr
     by_cases e : q = id
     ·subst e
      rw [j9] at h
      simp only [Option.some.injEq, Root.box.injEq] at h
      subst h
      exact up (hkz0.1 c hc)
     ·rw [w6 e] at h
      have h' : over s.objs G q = some (.box cs) := by simp [over, h]
      exact up (a3W (hk.box q cs (hkz0.2.2 q cs h') c hc))
   ·cases h
  case bld zs ps =>
   simp only [a0M, eff] at h
   split at h
   ·rename_i hlen
    obtain ⟨avs, G, hG⟩ := a3M zs id
    have hz : ∀ o : w9, zcells id o zs = (avs, over o G) := by
     intro o
     have := (hG o (fun _ => none)).1
     rw [e0] at this
     exact this
    have hGs : ∀ q, G q ≠ none → id ≤ q ∧ q < id + zs.length := fun q hq => (hG (fun _ => none) (fun _ => none)).2 q hq
    have hkz0 := b5e zs id s.objs
    rw [hz] at h hkz0
    split at h
    ·rename_i cs hcs
     simp only [Option.some.injEq, Prod.mk.injEq] at h
     obtain ⟨rfl, rfl⟩ := h
     simp only [AO.rd, FO.rd] at ht
     rw [b0P ha hk ps avs ht] at hcs
     refine ⟨G, ?_, rfl, fun s2 ha2 ht2 => ?_, b1g (b7b hk ps avs (fun c hc => hkz0.1 c hc) hcs), ?_⟩
     ·intro q hq
      have := hGs q hq
      omega
     ·simp only [AO.rd, FO.rd] at ht2
      simp only [a0M, eff, hlen, if_true, hz, b0P ha2 hk ps avs ht2, hcs]
     ·intro q cs h c hc
      have h' : over s.objs G q = some (.box cs) := by simp [over, h]
      exact a3W (hk.box q cs (hkz0.2.2 q cs h') c hc)
    ·cases h
   ·cases h
  case nilrow sz =>
   simp only [a0M, eff, Option.some.injEq, Prod.mk.injEq] at h
   obtain ⟨rfl, rfl⟩ := h
   refine ⟨upd (fun _ => none) id (some (.row true sz [])), slot1 _ _, O1 _ _ _, fun s2 _ _ => ?_, a5c (by simp [over, j9]), ?_⟩
   ·simp only [a0M, eff]
    rw [O1 s2.objs]
   ·intro q cs h
    by_cases e : q = id
    ·subst e; rw [j9] at h; cases h
    ·rw [w6 e] at h; cases h
  case mkm =>
   simp only [a0M, eff, Option.some.injEq, Prod.mk.injEq] at h
   obtain ⟨rfl, rfl⟩ := h
   refine ⟨upd (fun _ => none) id (some (.map [])), slot1 _ _, O1 _ _ _, fun s2 _ _ => ?_, c4z (by simp [over, j9]), ?_⟩
   ·simp only [a0M, eff]
    rw [O1 s2.objs]
   ·intro q cs h
    by_cases e : q = id
    ·subst e; rw [j9] at h; cases h
    ·rw [w6 e] at h; cases h
  case bsle sz =>
   simp only [a0M, eff, Option.some.injEq, Prod.mk.injEq] at h
   obtain ⟨rfl, rfl⟩ := h
   exact ⟨fun _ => none, fun q hq => absurd rfl hq, rfl, fun s2 _ _ => rfl, c4N, fun q cs h => by cases h⟩
  case app0 x y sz by_ =>
   simp only [AO.rd, FO.rd] at ht
   simp only [a0M, eff] at h
   rw [A5 (x := x) (fun t h => ht t (by simp [h])), A5 (x := y) (fun t h => ht t (by simp [h]))] at h
   split at h
   ·rename_i hx
    have hky := B0 hk y
    unfold a3P at h
    split at h
    ·rename_i news fl o2 hs
     split at h
     ·rename_i hroom
      simp only [Option.some.injEq, Prod.mk.injEq] at h
      obtain ⟨rfl, rfl⟩ := h
      have hag : ∀ s2 : St, Agr s s2 → ∀ q, b0i (s.get y) q → upd s2.objs (id + 1) (some (.row true sz [])) q = upd s0.objs (id + 1) (some (.row true sz [])) q := by
       intro s2 ha2 q hq
       by_cases e : q = id + 1
       ·rw [e, j9, j9]
       ·rw [w6 e, w6 e, ha2 q (hky q hq), ha q (hky q hq)]
      have hov : ∀ o : w9, upd (upd (upd o (id + 1) (some (.row true sz []))) (id + 1) (some .dead)) id (some (.row (true && fl) sz (([] : List V).drop 0 |>.take 0 |>.append news))) = over o (upd (upd (fun _ => none) (id + 1) (some .dead)) id (some (.row (true && fl) sz (([] : List V).drop 0 |>.take 0 |>.append news)))) := by
       intro o
       funext q
       by_cases e1 : q = id
       ·subst e1; simp [j9, over]
       ·by_cases e2 : q = id + 1
        ·subst e2; simp [j9, w6 e1, over]
        ·simp [w6 e1, w6 e2, over]
      refine ⟨upd (upd (fun _ => none) (id + 1) (some .dead)) id (some (.row (true && fl) sz (([] : List V).drop 0 |>.take 0 |>.append news))), ?_, ?_, fun s2 ha2 ht2 => ?_, a5c (by simp [over, j9]), ?_⟩
      ·intro q hq
       by_cases e1 : q = id
       ·omega
       ·by_cases e2 : q = id + 1
        ·omega
        ·rw [w6 e1, w6 e2] at hq; exact absurd rfl hq
      ·rw [(b9N (fun q _ => rfl) hs).1]; exact hov s0.objs
      ·simp only [AO.rd, FO.rd] at ht2
       simp only [a0M, eff]
       rw [A5 (x := x) (fun t h => ht2 t (by simp [h])), A5 (x := y) (fun t h => ht2 t (by simp [h])), hx]
       simp only [a3P, (b9N (hag s2 ha2) hs).2, hroom, and_self, if_true]
       rw [← hov s2.objs]
       rfl
      ·intro q cs hq
       by_cases e1 : q = id
       ·subst e1; rw [j9] at hq; cases hq
       ·by_cases e2 : q = id + 1
        ·subst e2; rw [w6 e1, j9] at hq; cases hq
        ·rw [w6 e1, w6 e2] at hq; cases hq
     ·cases h
    ·cases h
   ·cases h
  case nilof x sz =>
   simp only [AO.rd, FO.rd] at ht
   have hkx := B0 hk x
   have key : ∀ s2 : St, Agr s s2 → (∀ t ∈ rdX x, s2.tmps t = s.tmps t) → ((eff s2 id (.nilof x sz)).map (·.1) = (eff s id (.nilof x sz)).map (·.1)) ∧ ∀ p, eff s2 id (.nilof x sz) = some p → p = (.sl id 0 0, upd s2.objs id (some (.row true sz []))) := by
    intro s2 ha2 ht2
    simp only [eff]
    rw [A5 ht2]
    generalize s.get x = c at hkx
    cases c with
    | sl r off len =>
     simp only
     rw [a4N ha2 hkx]
     constructor
     ·split <;> rfl
     ·intro p hp
      split at hp
      ·simp only [Option.some.injEq] at hp; exact hp.symm
      ·cases hp
    | _ =>
     simp only [B8 ha2 hkx]
     constructor
     ·split <;> rfl
     ·intro p hp
      split at hp
      ·simp only [Option.some.injEq] at hp; exact hp.symm
      ·cases hp
   simp only [a0M] at h
   obtain ⟨k1, k2⟩ := key s0 ha ht
   have := k2 _ h
   simp only [Prod.mk.injEq] at this
   obtain ⟨rfl, rfl⟩ := this
   refine ⟨upd (fun _ => none) id (some (.row true sz [])), slot1 _ _, O1 _ _ _, fun s2 ha2 ht2 => ?_, a5c (by simp [over, j9]), ?_⟩
   ·simp only [a0M]
    obtain ⟨j1, j2⟩ := key s2 ha2 ht2
    rw [h] at k1
    rw [← k1] at j1
    cases hq : eff s2 id (.nilof x sz) with
    | none => rw [hq] at j1; simp at j1
    | some p => rw [j2 p hq, O1 s2.objs]
   ·intro q cs h
    by_cases e : q = id
    ·subst e; rw [j9] at h; cases h
    ·rw [w6 e] at h; cases h
  case bslp sz xs =>
   simp only [AO.rd, FO.rd] at ht
   simp only [a0M, eff] at h
   rw [a2k ht] at h
   split at h
   ·rename_i L fl hL
    split at h
    ·rename_i hcond
     simp only [Option.some.injEq, Prod.mk.injEq] at h
     obtain ⟨rfl, rfl⟩ := h
     refine ⟨upd (fun _ => none) id (some (.row fl sz L)), slot1 _ _, O1 _ _ _, fun s2 ha2 ht2 => ?_, a5c (by simp [over, j9]), ?_⟩
     ·simp only [AO.rd, FO.rd] at ht2
      simp only [a0M, eff]
      rw [a2k ht2, hL]
      simp only [hcond, if_true]
      rw [O1 s2.objs]
     ·intro q cs h
      by_cases e : q = id
      ·subst e; rw [j9] at h; cases h
      ·rw [w6 e] at h; cases h
    ·cases h
   ·cases h
  case mks sz bytes z l c =>
   simp only [AO.rd, FO.rd] at ht
   simp only [a0M, eff] at h
   rw [A5 (x := l) (fun t h => ht t (by simp [h])), A5 (x := c) (fun t h => ht t (by simp [h])), B8 ha (B0 hk l), B8 ha (B0 hk c)] at h
   split at h
   ·rename_i ln cn h1 h2
    split at h
    ·rename_i hcond
     simp only [Option.some.injEq, Prod.mk.injEq] at h
     obtain ⟨rfl, rfl⟩ := h
     refine ⟨upd (fun _ => none) id (some (.row true sz (List.replicate ln.toNat z))), slot1 _ _, O1 _ _ _, fun s2 ha2 ht2 => ?_, a5c (by simp [over, j9]), ?_⟩
     ·simp only [AO.rd, FO.rd] at ht2
      simp only [a0M, eff]
      rw [A5 (x := l) (fun t h => ht2 t (by simp [h])), A5 (x := c) (fun t h => ht2 t (by simp [h])), B8 ha2 (B0 hk l), B8 ha2 (B0 hk c), h1, h2]
      simp only [hcond, and_self, if_true]
      rw [O1 s2.objs]
     ·intro q cs h
      by_cases e : q = id
      ·subst e; rw [j9] at h; cases h
      ·rw [w6 e] at h; cases h
    ·cases h
   ·cases h
 | call f xs =>
  simp only [AO.rd] at ht
  obtain ⟨ln, Vs, res, hok, hsn, hcon, hfit, hcl, rfl, rfl⟩ := h
  rw [a2k ht, a1d (fun c hc => by obtain ⟨x, _, rfl⟩ := List.mem_map.1 hc; exact a5R ha hk 8 (B0 hk x))] at hsn
  obtain ⟨av, G, hG, hpl⟩ := b7z res id hfit
  have hkn := c2Y (id := id) (o := s.objs) hfit (fun _ => .inr trivial)
  rw [hpl] at hkn
  refine ⟨G, hG, by rw [hpl], fun s2 ha2 ht2 => ?_, by rw [hpl]; exact hkn.1, ?_⟩
  ·simp only [AO.rd] at ht2
   refine ⟨ln, Vs, res, hok, ?_, hcon, hfit, hcl, by rw [hpl, hpl], by rw [hpl]⟩
   rw [a2k ht2, a1d (fun c hc => by obtain ⟨x, _, rfl⟩ := List.mem_map.1 hc; exact a5R ha2 hk 8 (B0 hk x))]
   exact hsn
  ·intro q cs h c hc
   exact a3W (hk.box q cs (hkn.2 q cs (by simp [over, h])) c hc)
 | callv g xs =>
  simp only [AO.rd] at ht
  obtain ⟨f, caps, hfn, ln, Vs, res, hok, hsn, hcon, hfit, hcl, rfl, rfl⟩ := h
  rw [A5 (x := g) (fun t h => ht t (by simp [h])), b7h ha (B0 hk g)] at hfn
  have hck := c4k (B0 hk g) hfn
  have hall : ∀ c ∈ xs.map s.get ++ caps, Kn s.objs c := by
   intro c hc
   rcases List.mem_append.1 hc with hc | hc
   ·obtain ⟨x, _, rfl⟩ := List.mem_map.1 hc; exact B0 hk x
   ·exact hck c hc
  rw [a2k (xs := xs) (fun t h => ht t (by simp [h])), a1d (fun c hc => a5R ha hk 8 (hall c hc))] at hsn
  obtain ⟨av, G, hG, hpl⟩ := b7z res id hfit
  have hkn := c2Y (id := id) (o := s.objs) hfit (fun _ => .inr trivial)
  rw [hpl] at hkn
  refine ⟨G, hG, by rw [hpl], fun s2 ha2 ht2 => ?_, by rw [hpl]; exact hkn.1, ?_⟩
  ·simp only [AO.rd] at ht2
   refine ⟨f, caps, by rw [A5 (x := g) (fun t h => ht2 t (by simp [h])), b7h ha2 (B0 hk g)]; exact hfn, ln, Vs, res, hok, ?_, hcon, hfit, hcl, by rw [hpl, hpl], by rw [hpl]⟩
   rw [a2k (xs := xs) (fun t h => ht2 t (by simp [h])), a1d (fun c hc => a5R ha2 hk 8 (hall c hc))]
   exact hsn
  ·intro q cs h c hc
   exact a3W (hk.box q cs (hkn.2 q cs (by simp [over, h])) c hc)
theorem c1b {s s' : St} {g : Option (Nat × Bool)} (h : ∀ d b, g = some (d, b) → s'.tmps d = s.tmps d) : wants s' g = wants s g := by
 cases g with
 | none => rfl
 | some p => obtain ⟨d, b⟩ := p; simp only [wants]; rw [h d b rfl]
theorem I6 {s : St} {d : Option Nat} {av : AV} {ob : w9} : (put s d av ob).objs = ob := by cases d <;> rfl
theorem a0S {s : St} {d : Option Nat} {av : AV} {ob : w9} {t : Nat} (h : d ≠ some t) : (put s d av ob).tmps t = s.tmps t := by
 cases d with
 | none => rfl
 | some d => exact w6 (fun e => h (by rw [e]))
theorem c3d {o : w9} : Kn o .undef := b6z (by simp)
theorem a6u (hk : a3K s) {s0 : St} (ha : Agr s s0) {id : Nat} {m : MI} (hs : m.op.soft = true) (ht : ∀ t ∈ m.rd, s0.tmps t = s.tmps t) {s1 : St} (h : a3I P s0 id m s1) :
  ∃ av G, c0L id G ∧ s1 = put s0 m.dst av (over s0.objs G) ∧ (∀ s2 : St, Agr s s2 → (∀ t ∈ m.rd, s2.tmps t = s.tmps t) → a3I P s2 id m (put s2 m.dst av (over s2.objs G))) ∧ Kn (over s.objs G) av ∧ (∀ q cs, G q = some (.box cs) → ∀ c ∈ cs, Kn (over s.objs G) c) := by
 have hgd : ∀ (s2 : St), (∀ t ∈ m.rd, s2.tmps t = s.tmps t) → wants s2 m.gd = wants s m.gd := by
  intro s2 h2
  refine c1b (fun d b hd => h2 d ?_)
  simp [MI.rd, hd]
 have hop : ∀ (s2 : St), (∀ t ∈ m.rd, s2.tmps t = s.tmps t) → ∀ t ∈ m.op.rd, s2.tmps t = s.tmps t := fun s2 h2 t hm => h2 t (by simp [MI.rd, hm])
 rcases h with ⟨hw, rfl⟩ | ⟨hw, av, ob, hso, rfl⟩ | ⟨_, hx⟩
 rotate_left 2
 ·exfalso
  split at hx
  ·rename_i h; rw [h] at hs; simp [AO.soft] at hs
  ·rename_i h; rw [h] at hs; simp [AO.soft] at hs
  ·exact hx
 ·refine ⟨.undef, fun _ => none, fun q hq => absurd rfl hq, rfl, fun s2 ha2 ht2 => .inl ⟨?_, rfl⟩, c3d, fun q cs h => by cases h⟩
  rw [hgd s2 ht2, ← hgd s0 ht]; exact hw
 ·obtain ⟨G, hG, rfl, h2, k1, k2⟩ := c6l hk ha hs (hop s0 ht) hso
  refine ⟨av, G, hG, rfl, fun s2 ha2 ht2 => .inr (.inl ⟨?_, av, _, h2 s2 ha2 (hop s2 ht2), rfl⟩), k1, k2⟩
  rw [hgd s2 ht2, ← hgd s0 ht]; exact hw
theorem c2M (hk : a3K s) {d : Option Nat} {av : AV} {G : w9} (h1 : Kn (over s.objs G) av) (h2 : ∀ q cs, G q = some (.box cs) → ∀ c ∈ cs, Kn (over s.objs G) c) : a3K (put s d av (over s.objs G)) := by
 refine ⟨fun t => ?_, ?_⟩
 ·rw [I6]
  by_cases e : d = some t
  ·subst e; simp only [put, j9]; exact h1
  ·rw [a0S e]; exact a3W (hk.tmps t)
 ·rw [I6]
  intro r cs ho c hc
  cases hG : G r with
  | some x =>
   have : G r = some (.box cs) := by simpa [over, hG] using ho
   exact h2 r cs this c hc
  | none =>
   simp only [over, hG] at ho
   exact a3W (hk.box r cs ho c hc)
def FO.ap : FO → Bool
 | .app _ _ _ _ _ => true
 | .bsl _ _ => true
 | _ => false
def c0T (m : MI) : Bool := m.gd.isNone && (match m.op with
 | .p false (.mv _) => true
 | _ => false)
def b5r (m : MI) : Bool := m.gd.isNone && (match m.op with
 | .f m => m.ap
 | _ => false)
def c1T (m m' : MI) : Bool :=
 (match m.dst with
  | some d => !m'.rd.contains d && !(m'.dst == some d)
  | none => true) &&
 (match m'.dst with
  | some d => !m.rd.contains d
  | none => true)
def indep (m m' : MI) : Bool := ((m.op.soft && m'.op.soft) || ((c0T m && b5r m') || (b5r m && c0T m'))) && c1T m m'
def a6P (o ob : w9) : Prop := (∀ q, o q ≠ none → ob q ≠ none) ∧ (∀ q cs, ob q = some (.box cs) → o q = some (.box cs))
theorem a1X (o : w9) : a6P o o := ⟨fun _ h => h, fun _ _ h => h⟩
theorem a2J {o p q : w9} (h : a6P o p) (h' : a6P p q) : a6P o q := ⟨fun r hr => h'.1 r (h.1 r hr), fun r cs hr => h.2 r cs (h'.2 r cs hr)⟩
theorem a3J (o : w9) (r : Nat) (x : Root) (hx : ∀ cs, x ≠ .box cs) : a6P o (upd o r (some x)) := by
 refine ⟨fun q hq => ?_, fun q cs hq => ?_⟩
 ·by_cases e : q = r
  ·subst e; simp [j9]
  ·rw [w6 e]; exact hq
 ·by_cases e : q = r
  ·subst e; rw [j9] at hq; exact absurd (Option.some.inj hq) (hx cs)
  ·rw [w6 e] at hq; exact hq
theorem b9h {r sz : Nat} {o o2 : w9} {mv : Bool} {y : AV} {L : List V} {f : Bool} (h : a3B r o sz mv y = some (L, f, o2)) : a6P o o2 := by
 unfold a3B at h
 split at h
 ·split at h
  ·split at h
   ·cases h
   ·split at h
    ·simp only [Option.some.injEq, Prod.mk.injEq] at h; obtain ⟨_, _, rfl⟩ := h
     exact a3J _ _ _ (by simp)
    ·split at h
     ·simp only [Option.some.injEq, Prod.mk.injEq] at h; obtain ⟨_, _, rfl⟩ := h; exact a1X _
     ·cases h
  ·cases h
 ·split at h
  ·split at h
   ·cases h
   ·simp only [Option.some.injEq, Prod.mk.injEq] at h; obtain ⟨_, _, rfl⟩ := h; exact a1X _
  ·cases h
 ·split at h
  ·split at h
   ·cases h
   ·simp only [Option.some.injEq, Prod.mk.injEq] at h; obtain ⟨_, _, rfl⟩ := h; exact a1X _
  ·cases h
 ·cases h
theorem b2U {id r off len : Nat} {own : Bool} {L : List V} {o : w9} {y : AV} {sz bytes : Nat} {mv : Bool} {av : AV} {ob : w9} (h : a3P id r off len own L o y sz bytes mv = some (av, ob)) : a6P o ob ∧ Kn ob av := by
 unfold a3P at h
 split at h
 ·rename_i hs
  split at h
  ·simp only [Option.some.injEq, Prod.mk.injEq] at h; obtain ⟨rfl, rfl⟩ := h
   exact ⟨a2J (b9h hs) (a2J (a3J _ _ _ (by simp)) (a3J _ _ _ (by simp))), a5c (by simp [j9])⟩
  ·cases h
 ·cases h
theorem b8t {r off len sz : Nat} {own : Bool} {L : List V} {c : AV} {av : AV} {ob : w9} (h : a5U s r off len own sz L c = some (av, ob)) : a6P s.objs ob ∧ Kn ob av := by
 unfold a5U at h
 split at h
 ·split at h
  ·simp only [Option.some.injEq, Prod.mk.injEq] at h; obtain ⟨rfl, rfl⟩ := h
   exact ⟨a3J _ _ _ (by simp), a5c (by simp [j9])⟩
  ·cases h
 ·cases h
theorem c1a {id : Nat} {x y : X} {sz bytes : Nat} {mv : Bool} {av : AV} {ob : w9} (h : eff s id (.app x y sz bytes mv) = some (av, ob)) : a6P s.objs ob ∧ Kn ob av := by
 simp only [eff] at h
 split at h
 ·obtain ⟨h1, h2⟩ := b2U h
  exact ⟨a2J (a3J _ _ _ (by simp)) h1, h2⟩
 ·split at h
  ·split at h
   ·split at h
    ·split at h
     ·rename_i p hp
      simp only [Option.some.injEq] at h; subst h
      exact b2U hp
     ·exact b8t h
    ·cases h
   ·cases h
  ·cases h
theorem a9I {o o2 : w9} {c : AV} {v : V} (h : a2Q o c = some (v, o2)) : a6P o o2 := by
 unfold a2Q at h
 split at h
 ·split at h
  ·simp only [Option.some.injEq, Prod.mk.injEq] at h; obtain ⟨_, rfl⟩ := h; exact a1X _
  ·cases h
 ·split at h
  ·simp only [Option.some.injEq, Prod.mk.injEq] at h; obtain ⟨_, rfl⟩ := h
   exact a3J _ _ _ (by simp)
  ·cases h
 ·cases h
theorem a8U : ∀ {cs : List AV} {o o2 : w9} {vs : List V} (h : a0I o cs = some (vs, o2)), a6P o o2
 | [], o, o2, vs, h => by simp only [a0I, Option.some.injEq, Prod.mk.injEq] at h; obtain ⟨_, rfl⟩ := h; exact a1X _
 | c :: cs, o, o2, vs, h => by
  simp only [a0I] at h
  split at h
  ·rename_i h1
   split at h
   ·rename_i h2
    simp only [Option.some.injEq, Prod.mk.injEq] at h; obtain ⟨_, rfl⟩ := h
    exact a2J (a9I h1) (a8U h2)
   ·cases h
  ·cases h
theorem c0y {o o2 : w9} {c : AV} {v : V} {f : Bool} (h : elem o c = some (v, f, o2)) : a6P o o2 := by
 unfold elem at h
 split at h
 ·rename_i v' o' h1
  simp only [Option.some.injEq, Prod.mk.injEq] at h; obtain ⟨_, _, rfl⟩ := h
  unfold absorb at h1
  split at h1
  ·split at h1
   ·rename_i h2
    simp only [Option.some.injEq, Prod.mk.injEq] at h1; obtain ⟨_, rfl⟩ := h1
    exact a8U h2
   ·cases h1
  ·split at h1
   ·simp only [Option.some.injEq, Prod.mk.injEq] at h1; obtain ⟨_, rfl⟩ := h1; exact a1X _
   ·cases h1
  ·exact a9I h1
 ·split at h
  ·simp only [Option.some.injEq, Prod.mk.injEq] at h; obtain ⟨_, _, rfl⟩ := h; exact a1X _
  ·cases h
theorem b2J : ∀ {cs : List AV} {o o2 : w9} {vs : List V} {f : Bool} (h : elems o cs = some (vs, f, o2)), a6P o o2
 | [], o, o2, vs, f, h => by simp only [elems, Option.some.injEq, Prod.mk.injEq] at h; obtain ⟨_, _, rfl⟩ := h; exact a1X _
 | c :: cs, o, o2, vs, f, h => by
  simp only [elems] at h
  split at h
  ·rename_i h1
   split at h
   ·rename_i h2
    simp only [Option.some.injEq, Prod.mk.injEq] at h; obtain ⟨_, _, rfl⟩ := h
    exact a2J (c0y h1) (b2J h2)
   ·cases h
  ·cases h
theorem c1q {id : Nat} {m : FO} (hm : m.ap = true) {av : AV} {ob : w9} (h : eff s id m = some (av, ob)) : a6P s.objs ob ∧ Kn ob av := by
 cases m <;> simp only [FO.ap] at hm <;> try (cases hm; done)
 case app x y sz bytes mv => exact c1a h
 case bsl sz xs =>
  simp only [eff] at h
  split at h
  ·rename_i he
   split at h
   ·simp only [Option.some.injEq, Prod.mk.injEq] at h; obtain ⟨rfl, rfl⟩ := h
    exact ⟨a2J (b2J he) (a3J _ _ _ (by simp)), a5c (by simp [j9])⟩
   ·cases h
  ·cases h
theorem c3q {s2 : St} {id : Nat} {x y : X} {sz bytes : Nat} {mv : Bool} (ho : s2.objs = s.objs) (hx : s2.get x = s.get x) (hy : s2.get y = s.get y) : eff s2 id (.app x y sz bytes mv) = eff s id (.app x y sz bytes mv) := by
 have hi : ∀ (r off len : Nat) (own : Bool) (sz : Nat) (L : List V) (c : AV), a5U s2 r off len own sz L c = a5U s r off len own sz L c := by
  intro r off len own sz L c
  unfold a5U
  rw [ho]
 simp only [eff, ho, hy, hi]
 split
 ·rfl
 ·rw [hx]
theorem c1M {s2 : St} {id : Nat} {m : FO} (hm : m.ap = true) (ho : s2.objs = s.objs) (ht : ∀ t ∈ m.rd, s2.tmps t = s.tmps t) : eff s2 id m = eff s id m := by
 cases m <;> simp only [FO.ap] at hm <;> try (cases hm; done)
 case app x y sz bytes mv => exact c3q ho (A5 fun t h => ht t (by simp [FO.rd, h])) (A5 fun t h => ht t (by simp [FO.rd, h]))
 case bsl sz xs => simp only [eff, ho, a2k (xs := xs) (fun t h => ht t (by simpa [FO.rd] using h))]
theorem b9A {o ob : w9} (h : a6P o ob) {c : AV} (hk : Kn o c) : Kn ob c := fun r hr => h.1 r (hk r hr)
theorem c3V (hk : a3K s) {d : Option Nat} {av : AV} {ob : w9} (hm : a6P s.objs ob) (h1 : Kn ob av) : a3K (put s d av ob) := by
 refine ⟨fun t => ?_, ?_⟩
 ·rw [I6]
  by_cases e : d = some t
  ·subst e; simp only [put, j9]; exact h1
  ·rw [a0S e]; exact b9A hm (hk.tmps t)
 ·rw [I6]
  intro r cs ho c hc
  exact b9A hm (hk.box r cs (hm.2 r cs ho) c hc)
theorem a9H {id : Nat} {m : MI} (hm : c0T m = true) {s1 : St} : (∃ z, m.op = .p false (.mv z) ∧ m.gd = none) ∧ ∀ z, m.op = .p false (.mv z) → (a3I P s id m s1 ↔ s1 = put s m.dst (s.get z) s.objs) := by
 unfold c0T at hm
 rw [Bool.and_eq_true] at hm
 have hg : m.gd = none := by simpa using hm.1
 obtain ⟨z, hz⟩ : ∃ z, m.op = .p false (.mv z) := by
  have := hm.2
  split at this
  ·rename_i z h; exact ⟨z, h⟩
  ·cases this
 refine ⟨⟨z, hz, hg⟩, fun z hz => ?_⟩
 constructor
 ·rintro (⟨hw, _⟩ | ⟨_, av, ob, hso, rfl⟩ | ⟨_, hx⟩)
  ·rw [hg] at hw; simp [wants] at hw
  ·rw [hz] at hso
   obtain ⟨h1, rfl⟩ := hso
   simp only [ev, Option.some.injEq] at h1
   rw [h1]
  ·rw [hz] at hx; exact hx.elim
 ·rintro rfl
  refine .inr (.inl ⟨by rw [hg]; rfl, s.get z, s.objs, ?_, rfl⟩)
  rw [hz]
  exact ⟨rfl, rfl⟩
theorem a6l {id : Nat} {m : MI} (hm : b5r m = true) {s1 : St} : (∃ fo, m.op = .f fo ∧ fo.ap = true ∧ m.gd = none) ∧ ∀ fo, m.op = .f fo → (a3I P s id m s1 ↔ ∃ av ob, eff s id fo = some (av, ob) ∧ s1 = put s m.dst av ob) := by
 unfold b5r at hm
 rw [Bool.and_eq_true] at hm
 have hg : m.gd = none := by simpa using hm.1
 obtain ⟨fo, hz, ha⟩ : ∃ fo, m.op = .f fo ∧ fo.ap = true := by
  have := hm.2
  split at this
  ·rename_i fo h; exact ⟨fo, h, this⟩
  ·cases this
 refine ⟨⟨fo, hz, ha, hg⟩, fun fo hz => ?_⟩
 constructor
 ·rintro (⟨hw, _⟩ | ⟨_, av, ob, hso, rfl⟩ | ⟨_, hx⟩)
  ·rw [hg] at hw; simp [wants] at hw
  ·rw [hz] at hso
   exact ⟨av, ob, hso, rfl⟩
  ·rw [hz] at hx; exact hx.elim
 ·rintro ⟨av, ob, he, rfl⟩
  refine .inr (.inl ⟨by rw [hg]; rfl, av, ob, ?_, rfl⟩)
  rw [hz]
  exact he
theorem b7Q (hk : a3K s) {id : Nat} {mj mi : MI} (hin : indep mj mi = true) {s1 : St} (h : a3I P s id mj s1) : a3K s1 := by
 simp only [indep, Bool.and_eq_true, Bool.or_eq_true] at hin
 have soft : mj.op.soft = true → a3K s1 := by
  intro hs
  obtain ⟨av, G, hG, e, _, k1, k2⟩ := a6u hk (fun r _ => rfl) hs (fun t _ => rfl) h
  rw [e]
  exact c2M hk k1 k2
 rcases hin.1 with h1 | h1 | h1
 ·exact soft h1.1
 ·obtain ⟨⟨z, hz, _⟩, _⟩ := a9H (P := P) (s := s) (id := id) (s1 := s1) h1.1
  exact soft (by rw [hz]; rfl)
 ·obtain ⟨⟨fo, hz, hap, _⟩, hst⟩ := a6l (P := P) (s := s) (id := id) (s1 := s1) h1.1
  obtain ⟨av, ob, he, rfl⟩ := (hst fo hz).1 h
  obtain ⟨m1, m2⟩ := c1q hap he
  exact c3V hk m1 m2
theorem b9L {d : Option Nat} {av : AV} {ob : w9} {x : X} (h : ∀ t ∈ rdX x, d ≠ some t) : (put s d av ob).get x = s.get x := A5 (fun t ht => a0S (h t ht))
theorem b9H {d d' : Option Nat} {av av' : AV} {ob ob' ob2 : w9} (h : ∀ t, d = some t → d' ≠ some t) : put (put s d av ob) d' av' ob2 = put (put s d' av' ob') d av ob2 := by
 cases hd : d with
 | none => cases hd' : d' <;> simp [put]
 | some t =>
  cases hd' : d' with
  | none => simp [put]
  | some t' =>
   have hne : t ≠ t' := fun e => h t hd (by rw [hd', e])
   simp only [put]
   congr 1
   funext q
   by_cases e1 : q = t
   ·subst e1
    rw [w6 hne, j9, j9]
   ·by_cases e2 : q = t'
    ·subst e2; rw [j9, w6 e1, j9]
    ·rw [w6 e2, w6 e1, w6 e1, w6 e2]
theorem c2E {idj idi : Nat} {mj mi : MI} (hja : b5r mj = true) (him : c0T mi = true) (nd1 : ∀ t ∈ mi.rd, mj.dst ≠ some t) (nd2 : ∀ t ∈ mj.rd, mi.dst ≠ some t) (ndd : ∀ t, mj.dst = some t → mi.dst ≠ some t) {s1 s2 : St} (h1 : a3I P s idj mj s1) (h2 : a3I P s1 idi mi s2) :
  ∃ s1', a3I P s idi mi s1' ∧ a3I P s1' idj mj s2 := by
 obtain ⟨⟨fo, hz, hap, hg⟩, hst⟩ := a6l (P := P) (s := s) (id := idj) (s1 := s1) hja
 obtain ⟨⟨z, hz2, hg2⟩, hst2⟩ := a9H (P := P) (s := s1) (id := idi) (s1 := s2) him
 obtain ⟨av, ob, he, rfl⟩ := (hst fo hz).1 h1
 have h2 := (hst2 z hz2).1 h2
 have rz : ∀ t ∈ rdX z, mj.dst ≠ some t := fun t ht => nd1 t (by simp [MI.rd, hz2, AO.rd, MO.rd, ht])
 have rx : ∀ t ∈ fo.rd, mi.dst ≠ some t := fun t ht => nd2 t (by simp [MI.rd, hz, AO.rd, ht])
 rw [b9L rz, I6] at h2
 refine ⟨put s mi.dst (s.get z) s.objs, ((a9H him).2 z hz2).2 rfl, ((a6l hja).2 fo hz).2 ⟨av, ob, ?_, ?_⟩⟩
 ·rw [c1M hap I6 (fun t ht => a0S (rx t ht))]; exact he
 ·rw [h2]; exact b9H ndd
theorem c3x {idj idi : Nat} {mj mi : MI} (hjm : c0T mj = true) (hia : b5r mi = true) (nd1 : ∀ t ∈ mi.rd, mj.dst ≠ some t) (nd2 : ∀ t ∈ mj.rd, mi.dst ≠ some t) (ndd : ∀ t, mj.dst = some t → mi.dst ≠ some t) {s1 s2 : St} (h1 : a3I P s idj mj s1) (h2 : a3I P s1 idi mi s2) :
  ∃ s1', a3I P s idi mi s1' ∧ a3I P s1' idj mj s2 := by
 obtain ⟨⟨z, hz2, hg2⟩, hst2⟩ := a9H (P := P) (s := s) (id := idj) (s1 := s1) hjm
 obtain ⟨⟨fo, hz, hap, hg⟩, hst⟩ := a6l (P := P) (s := s1) (id := idi) (s1 := s2) hia
 have h1 := (hst2 z hz2).1 h1
 subst h1
 obtain ⟨av, ob, he, rfl⟩ := (hst fo hz).1 h2
 have rx : ∀ t ∈ fo.rd, mj.dst ≠ some t := fun t ht => nd1 t (by simp [MI.rd, hz, AO.rd, ht])
 have rz : ∀ t ∈ rdX z, mi.dst ≠ some t := fun t ht => nd2 t (by simp [MI.rd, hz2, AO.rd, MO.rd, ht])
 rw [c1M hap I6 (fun t ht => a0S (rx t ht))] at he
 refine ⟨put s mi.dst av ob, ((a6l hia).2 fo hz).2 ⟨av, ob, he, rfl⟩, ((a9H hjm).2 z hz2).2 ?_⟩
 rw [b9L rz, I6]
 exact b9H ndd
def a2p (s : St) (id : Nat) : Prop := ∀ k, k < 64 → s.objs (id + k) = none
theorem c0m {id : Nat} {G : w9} (hG : c0L id G) (hf : a2p s id) {r : Nat} (hr : s.objs r ≠ none) : G r = none := by
 cases h : G r with
 | none => rfl
 | some x =>
  obtain ⟨h1, h2⟩ := hG r (by rw [h]; simp)
  have := hf (r - id) (by omega)
  rw [show id + (r - id) = r by omega] at this
  exact absurd this hr
theorem swap (hk : a3K s) {idj idi : Nat} {mj mi : MI} (hin : indep mj mi = true) (hdj : idj + 64 ≤ idi ∨ idi + 64 ≤ idj) (hfj : a2p s idj) (hfi : a2p s idi) {s1 s2 : St} (h1 : a3I P s idj mj s1) (h2 : a3I P s1 idi mi s2) :
  ∃ s1', a3I P s idi mi s1' ∧ a3I P s1' idj mj s2 ∧ a3K s1 := by
 have hk1 := b7Q hk hin h1
 simp only [indep, c1T, Bool.and_eq_true, Bool.or_eq_true] at hin
 obtain ⟨hsoft, d1, d2⟩ := hin
 have nd1 : ∀ t ∈ mi.rd, mj.dst ≠ some t := by
  intro t ht e
  rw [e] at d1
  simp only [Bool.and_eq_true, Bool.not_eq_true'] at d1
  have := d1.1
  rw [List.contains_iff_mem.2 ht] at this
  cases this
 have nd2 : ∀ t ∈ mj.rd, mi.dst ≠ some t := by
  intro t ht e
  rw [e] at d2
  simp only [Bool.not_eq_true'] at d2
  rw [List.contains_iff_mem.2 ht] at d2
  cases d2
 have ndd : ∀ t, mj.dst = some t → mi.dst ≠ some t := by
  intro t e e'
  rw [e, e'] at d1
  simp at d1
 rcases hsoft with ⟨sj, si⟩ | ⟨jm, ia⟩ | ⟨ja, im⟩
 rotate_left 1
 ·obtain ⟨s1', q1, q2⟩ := c3x jm ia nd1 nd2 ndd h1 h2
  exact ⟨s1', q1, q2, hk1⟩
 ·obtain ⟨s1', q1, q2⟩ := c2E ja im nd1 nd2 ndd h1 h2
  exact ⟨s1', q1, q2, hk1⟩
 have agr0 : Agr s s := fun r _ => rfl
 obtain ⟨avj, Gj, hGj, e1, hj, kj1, kj2⟩ := a6u hk agr0 sj (fun t _ => rfl) h1
 subst e1
 have agr1 : ∀ {d av id G}, c0L id G → a2p s id → Agr s (put s d av (over s.objs G)) := by
  intro d av id G hG hf r hr
  rw [I6]
  simp only [over, c0m hG hf hr]
 obtain ⟨avi, Gi, hGi, e2, hi, ki1, ki2⟩ := a6u hk (agr1 hGj hfj) si (fun t ht => a0S (nd1 t ht)) h2
 subst e2
 refine ⟨put s mi.dst avi (over s.objs Gi), hi s agr0 (fun t _ => rfl), ?_, c2M hk kj1 kj2⟩
 have hlast := hj (put s mi.dst avi (over s.objs Gi)) (agr1 hGi hfi) (fun t ht => a0S (nd2 t ht))
 have e : put (put s mi.dst avi (over s.objs Gi)) mj.dst avj (over (put s mi.dst avi (over s.objs Gi)).objs Gj) = put (put s mj.dst avj (over s.objs Gj)) mi.dst avi (over (put s mj.dst avj (over s.objs Gj)).objs Gi) := by
  have eo : over (over s.objs Gi) Gj = over (over s.objs Gj) Gi := by
   funext q
   simp only [over]
   cases hj' : Gj q with
   | none => cases Gi q <;> rfl
   | some x =>
    cases hi' : Gi q with
    | none => rfl
    | some y =>
     have a1 := hGj q (by rw [hj']; simp)
     have a2 := hGi q (by rw [hi']; simp)
     omega
  rw [I6, I6, eo]
  cases hdi : mi.dst with
  | none => cases hdj' : mj.dst <;> simp [put]
  | some d =>
   cases hdj' : mj.dst with
   | none => simp [put]
   | some d' =>
    have hne : d ≠ d' := fun e => ndd d' hdj' (by rw [hdi, e])
    simp only [put]
    congr 1
    funext t
    by_cases e1 : t = d
    ·subst e1; rw [w6 hne, j9, j9]
    ·by_cases e2 : t = d'
     ·subst e2; rw [j9, w6 e1, j9]
     ·rw [w6 e2, w6 e1, w6 e1, w6 e2]
 rw [e] at hlast
 exact hlast
end
end Go.Ab
