import Derived.Test.YtnideigmfhhedaaGreatDoorA30
set_option linter.unusedVariables false
set_option linter.unusedSimpArgs false
namespace Go.Ab
open Go.RowKit
mutual
def rebA (r lo m : Nat) : AV → AV
 | .sl q off len => if q = r then (if lo ≤ off ∧ off + len ≤ lo + m then .sl r (off - lo) len else .bad) else .sl q off len
 | .ptr q i f => if q = r then .bad else .ptr q i f
 | .agg cs => .agg (rebAs r lo m cs)
 | .tup cs => .tup (rebAs r lo m cs)
 | .fn f cs => .fn f (rebAs r lo m cs)
 | c => c
def rebAs (r lo m : Nat) : List AV → List AV
 | [] => []
 | c :: cs => rebA r lo m c :: rebAs r lo m cs
end
def rebR (r lo m q : Nat) : Root → Root
 | .row own sz L => if q = r then .row own sz ((L.drop lo).take m) else .row own sz L
 | .box cs => .box (rebAs r lo m cs)
 | .dead => .dead
 | .map es => .map es
def rebO (r lo m : Nat) (o : Objs) : Objs := fun q => (o q).map (rebR r lo m q)
theorem rebO_none {r lo m : Nat} {o : Objs} {q : Nat} : rebO r lo m o q = none ↔ o q = none := by simp [rebO]
theorem rebO_live {r lo m : Nat} {o : Objs} {q : Nat} : live (rebO r lo m o q) = live (o q) := by
 unfold rebO
 cases h : o q with
 | none => rfl
 | some x =>
  cases x with
  | row own sz L => by_cases e : q = r <;> simp [rebR, live, e]
  | box cs => rfl
  | dead => rfl
  | map es => rfl
section
variable {P : Program} {N : Fr} {w0 : Base} {D0 : BSet} {E : Env} {st : St} {a : Act} {w : World}
def Env.reb (E : Env) (r lo m : Nat) (own : Bool) (sz : Nat) : Env :=
 { E with objs := rebO r lo m E.objs, loc := fun q => if q = r then (E.loc r).map fun p => (p.1, p.2 + lo * sz) else E.loc q }
theorem reb_own {r lo m : Nat} {own : Bool} {sz : Nat} {q g : Nat} : (E.reb r lo m own sz).own q g ↔ E.own q g := by
 unfold Env.own Env.reb
 by_cases e : q = r
 ·subst e
  simp only [if_true]
  constructor
  ·rintro (h | ⟨o, h⟩)
   ·exact .inl h
   ·obtain ⟨p, h1, h2⟩ := Option.map_eq_some_iff.1 h
    simp only [Prod.mk.injEq] at h2
    exact .inr ⟨p.2, by rw [h1, ← h2.1]⟩
  ·rintro (h | ⟨o, h⟩)
   ·exact .inl h
   ·exact .inr ⟨o + lo * sz, by rw [h]; rfl⟩
 ·simp only [e, if_false]
mutual
theorem AvRep.reb {r lo m : Nat} {own : Bool} {sz : Nat} {L : List V} (hr : E.objs r = some (.row own sz L)) (hm : lo + m ≤ L.length) : ∀ {c : AV} {x : Value}, AvRep E c x → AvRep (E.reb r lo m own sz) (rebA r lo m c) x
 | _, _, .val0 h => by simp only [rebA]; exact .val0 h
 | _, _, .val1 h1 h2 => by
  simp only [rebA]
  refine .val1 (fun h => h1 (rebO_none.1 h)) (fun h => h2 ?_)
  rw [← rebO_live (r := r) (lo := lo) (m := m)]; exact h
 | _, _, @AvRep.sl _ q off len x h1 h2 => by
  simp only [rebA]
  by_cases e : q = r
  ·subst e
   rw [if_pos rfl]
   split
   ·rename_i hb
    refine .sl (fun h => h1 (rebO_none.1 h)) ?_
    intro own' sz' L' ho
    have ho2 : rebO q lo m E.objs q = some (.row own' sz' L') := ho
    unfold rebO at ho2
    rw [hr] at ho2
    simp only [Option.map_some, rebR, if_true, Option.some.injEq, Root.row.injEq] at ho2
    obtain ⟨rfl, rfl, rfl⟩ := ho2
    obtain ⟨k1, k2⟩ := h2 _ _ _ hr
    refine ⟨by rw [List.length_take, List.length_drop]; omega, ?_⟩
    unfold SlAt at k2 ⊢
    have hloc : (E.reb q lo m own sz).loc q = (E.loc q).map fun p => (p.1, p.2 + lo * sz) := by simp [Env.reb]
    rw [hloc]
    cases hl : E.loc q with
    | none => rw [hl] at k2; exact k2
    | some p =>
     obtain ⟨g, o⟩ := p
     rw [hl] at k2
     obtain ⟨ad, c, rfl, q1, q2, q3, q4, qt, cur, ty, q5, q6⟩ := k2
     have e1 : lo * sz + (off - lo) * sz = off * sz := by rw [← Nat.add_mul]; congr 1; omega
     refine ⟨ad, c, rfl, q1, q2, fun h => ?_, q4, by rw [List.length_take, List.length_drop]; omega, cur, ty, q5, fun h => ?_⟩
     ·rw [q3 h, Nat.add_assoc, e1]
     ·have := q6 h
      have e2 : lo * sz + ((off - lo) + c) * sz = (off + c) * sz := by rw [← Nat.add_mul]; congr 1; omega
      rw [Nat.add_assoc, e2]; exact this
   ·exact .bad
  ·rw [if_neg e]
   refine .sl (fun h => h1 (rebO_none.1 h)) ?_
   intro own' sz' L' ho
   have ho2 : rebO r lo m E.objs q = some (.row own' sz' L') := ho
   unfold rebO at ho2
   obtain ⟨o, k1, k2⟩ := Option.map_eq_some_iff.1 ho2
   cases o <;> simp only [rebR] at k2
   ·rw [if_neg e] at k2
    simp only [Root.row.injEq] at k2
    obtain ⟨rfl, rfl, rfl⟩ := k2
    have hloc : (E.reb r lo m own sz).loc q = E.loc q := by simp [Env.reb, e]
    rw [hloc]
    exact h2 _ _ _ k1
   ·cases k2
   ·cases k2
   ·cases k2
 | _, _, @AvRep.ptrRow _ q i f x h1 h2 h3 => by
  simp only [rebA]
  by_cases e : q = r
  ·rw [if_pos e]; exact .bad
  ·rw [if_neg e]
   have hloc : (E.reb r lo m own sz).loc q = E.loc q := by simp [Env.reb, e]
   refine .ptrRow (fun h => h1 (rebO_none.1 h)) ?_ ?_
   ·intro own' sz' L' ho
    have ho2 : rebO r lo m E.objs q = some (.row own' sz' L') := ho
    unfold rebO at ho2
    obtain ⟨o, k1, k2⟩ := Option.map_eq_some_iff.1 ho2
    cases o <;> simp only [rebR] at k2
    ·rw [if_neg e] at k2
     simp only [Root.row.injEq] at k2
     obtain ⟨rfl, rfl, rfl⟩ := k2
     rw [hloc]
     exact h2 _ _ _ k1
    ·cases k2
    ·cases k2
    ·cases k2
   ·intro cs ho
    have ho2 : rebO r lo m E.objs q = some (.box cs) := ho
    unfold rebO at ho2
    obtain ⟨o, k1, k2⟩ := Option.map_eq_some_iff.1 ho2
    cases o <;> simp only [rebR] at k2
    ·rw [if_neg e] at k2; cases k2
    ·rw [hloc]
     exact h3 _ k1
    ·cases k2
    ·cases k2
 | _, _, .agg h1 h => by simp only [rebA]; exact .agg h1 (AvReps.reb hr hm h)
 | _, _, .tup h => by simp only [rebA]; exact .tup (AvReps.reb hr hm h)
 | _, _, .fn h => by simp only [rebA]; exact .fn (AvReps.reb hr hm h)
 | _, _, .bad => by simp only [rebA]; exact .bad
 | _, _, .ub => by simp only [rebA]; exact .ub
 | _, _, .e0 => by simp only [rebA]; exact .e0
 | _, _, @AvRep.mp _ q x h1 h2 => by
  simp only [rebA]
  refine .mp (fun h => h1 (rebO_none.1 h)) ?_
  intro es ho
  have ho2 : rebO r lo m E.objs q = some (.map es) := ho
  unfold rebO at ho2
  obtain ⟨o, k1, k2⟩ := Option.map_eq_some_iff.1 ho2
  cases o <;> simp only [rebR] at k2
  ·split at k2 <;> cases k2
  ·cases k2
  ·cases k2
  ·simp only [Root.map.injEq] at k2
   subst k2
   have e : q ≠ r := by rintro rfl; rw [hr] at k1; cases k1
   have hloc : (E.reb r lo m own sz).loc q = E.loc q := by simp [Env.reb, e]
   rw [hloc]
   exact h2 _ k1
theorem AvReps.reb {r lo m : Nat} {own : Bool} {sz : Nat} {L : List V} (hr : E.objs r = some (.row own sz L)) (hm : lo + m ≤ L.length) : ∀ {c : List AV} {x : List Value}, AvReps E c x → AvReps (E.reb r lo m own sz) (rebAs r lo m c) x
 | _, _, .nil => by simp only [rebAs]; exact .nil
 | _, _, .cons h hs => by simp only [rebAs]; exact .cons (AvRep.reb hr hm h) (AvReps.reb hr hm hs)
end
theorem good_reb {r lo m : Nat} {own : Bool} {sz : Nat} {L : List V} (hg : Good w0 D0 E) (hr : E.objs r = some (.row own sz L)) (hm : lo + m ≤ L.length) : Good w0 D0 (E.reb r lo m own sz) where
 below := hg.below
 dIn := hg.dIn
 d0 := hg.d0
 tabs := hg.tabs
 ownIn q hl g ho := hg.ownIn q (by rw [← rebO_live (r := r) (lo := lo) (m := m)]; exact hl) g (reb_own.1 ho)
 ownS q hl g o hloc := by
  have hl2 : live (E.objs q) = true := by rw [← rebO_live (r := r) (lo := lo) (m := m)]; exact hl
  by_cases e : q = r
  ·subst e
   have h2 : ((E.loc q).map fun p => (p.1, p.2 + lo * sz)) = some (g, o) := by simpa [Env.reb] using hloc
   obtain ⟨p, h1, h3⟩ := Option.map_eq_some_iff.1 h2
   simp only [Prod.mk.injEq] at h3
   exact hg.ownS q hl2 g p.2 (by rw [h1, ← h3.1])
  ·exact hg.ownS q hl2 g o (by simpa [Env.reb, e] using hloc)
 apart q q' hne h1 h2 g k1 k2 := hg.apart q q' hne (by rw [← rebO_live (r := r) (lo := lo) (m := m)]; exact h1) (by rw [← rebO_live (r := r) (lo := lo) (m := m)]; exact h2) g (reb_own.1 k1) (reb_own.1 k2)
 roots q o ho := by
  have ho2 : rebO r lo m E.objs q = some o := ho
  unfold rebO at ho2
  obtain ⟨o1, k1, rfl⟩ := Option.map_eq_some_iff.1 ho2
  have hroot := hg.roots q o1 k1
  cases o1 with
  | row own1 sz1 L1 =>
   simp only [rebR]
   by_cases e : q = r
   ·subst e
    rw [hr] at k1
    simp only [Option.some.injEq, Root.row.injEq] at k1
    obtain ⟨rfl, rfl, rfl⟩ := k1
    rw [if_pos rfl]
    simp only [RootRep] at hroot ⊢
    have hloc : (E.reb q lo m own sz).loc q = (E.loc q).map fun p => (p.1, p.2 + lo * sz) := by simp [Env.reb]
    rw [hloc]
    cases hl : E.loc q with
    | none =>
     rw [hl] at hroot
     simp only [Option.map_none]
     subst hroot; simp
    | some p =>
     obtain ⟨g, o⟩ := p
     rw [hl] at hroot
     obtain ⟨vs, ⟨cur, ty, b1, b2⟩, hu, hrr⟩ := hroot
     simp only [Option.map_some]
     refine ⟨(vs.drop (lo * sz)).take (m * sz), ⟨cur, ty, b1, ?_⟩, hu.drop.take, ?_⟩
     ·intro j u hj
      rw [List.getElem?_take] at hj
      split at hj
      ·rw [List.getElem?_drop] at hj
       rw [Nat.add_assoc]
       exact b2 _ _ hj
      ·cases hj
     ·have e1 : ((L.drop lo).take m).flatMap V.cells = ((L.flatMap V.cells).drop (lo * sz)).take (m * sz) := by
       rw [← mul_drop_blk hu]
       exact mul_take_blk hu.drop
      rw [e1]
      exact (hrr.drop _).take _
   ·rw [if_neg e]
    simp only [RootRep] at hroot ⊢
    have hloc : (E.reb r lo m own sz).loc q = E.loc q := by simp [Env.reb, e]
    rw [hloc]
    exact hroot
  | box cs =>
   simp only [rebR, RootRep] at hroot ⊢
   obtain ⟨g, cur, ty, c1, c2, c3, c4⟩ := hroot
   have e : q ≠ r := by rintro rfl; rw [hr] at k1; cases k1
   have hloc : (E.reb r lo m own sz).loc q = E.loc q := by simp [Env.reb, e]
   exact ⟨g, cur, ty, by rw [hloc]; exact c1, c2, AvReps.reb hr hm c3, c4⟩
  | dead => exact trivial
  | map es =>
   simp only [rebR, RootRep] at hroot ⊢
   obtain ⟨g, c1, c2⟩ := hroot
   have e : q ≠ r := by rintro rfl; rw [hr] at k1; cases k1
   have hloc : (E.reb r lo m own sz).loc q = E.loc q := by simp [Env.reb, e]
   exact ⟨g, by rw [hloc]; exact c1, c2⟩
def rebS (r lo m : Nat) (s : St) : St := { s with tmps := fun t => rebA r lo m (s.tmps t), objs := rebO r lo m s.objs, lk := none }
theorem sim_reb {r lo m : Nat} {own : Bool} {sz : Nat} {L : List V} {s : St} (hr : s.objs r = some (.row own sz L)) (hm : lo + m ≤ L.length) (h : Sim N w0 D0 s a w) : Sim N w0 D0 (rebS r lo m s) a w := by
 obtain ⟨E, hE, hn⟩ := h
 have hr2 : E.objs r = some (.row own sz L) := by rw [hE.eo]; exact hr
 refine ⟨E.reb r lo m own sz, ⟨good_reb hE.good hr2 hm, hE.ew, ?_, hE.size, hE.defers, fun t => AvRep.reb hr2 hm (hE.tmps t), hE.fix, fun t r i f h => by cases h⟩, fun q hq => ?_⟩
 ·show rebO r lo m E.objs = rebO r lo m s.objs
  rw [hE.eo]
 ·exact rebO_none.2 (hn q hq)
end
mutual
def norefA (r : Nat) : AV → Bool
 | .sl q _ _ => !(q == r)
 | .ptr q _ _ => !(q == r)
 | .agg cs => norefAs r cs
 | .tup cs => norefAs r cs
 | .fn _ cs => norefAs r cs
 | _ => true
def norefAs (r : Nat) : List AV → Bool
 | [] => true
 | c :: cs => norefA r c && norefAs r cs
end
mutual
theorem rebA_noref {r lo m : Nat} : ∀ {c : AV}, norefA r c = true → rebA r lo m c = c
 | .sl q _ _, h => by simp [norefA] at h; simp [rebA, h]
 | .ptr q _ _, h => by simp [norefA] at h; simp [rebA, h]
 | .agg cs, h => by simp only [norefA] at h; simp only [rebA, rebAs_noref h]
 | .tup cs, h => by simp only [norefA] at h; simp only [rebA, rebAs_noref h]
 | .fn _ cs, h => by simp only [norefA] at h; simp only [rebA, rebAs_noref h]
 | .val none _, _ => rfl
 | .val (some _) _, _ => rfl
 | .bad, _ => rfl
 | .ub, _ => rfl
 | .e0, _ => rfl
 | .mp _, _ => rfl
theorem rebAs_noref {r lo m : Nat} : ∀ {cs : List AV}, norefAs r cs = true → rebAs r lo m cs = cs
 | [], _ => rfl
 | c :: cs, h => by
  simp only [norefAs, Bool.and_eq_true] at h
  simp only [rebAs, rebA_noref h.1, rebAs_noref h.2]
end
inductive RebL (r lo m : Nat) : List (Nat × AV) → List (Nat × AV) → Prop
 | nil : RebL r lo m [] []
 | keep {t : Nat} {c : AV} {l l' : List (Nat × AV)} (h : norefA r c = true) (hs : RebL r lo m l l') : RebL r lo m ((t, c) :: l) ((t, c) :: l')
 | part {t n : Nat} {l l' : List (Nat × AV)} (h : n = m) (hs : RebL r lo m l l') : RebL r lo m ((t, .sl r lo m) :: l) ((t, .sl r 0 n) :: l')
 | bad {t : Nat} {c : AV} {l l' : List (Nat × AV)} (hs : RebL r lo m l l') : RebL r lo m ((t, c) :: l) ((t, .bad) :: l')
theorem rebL_at {r lo m : Nat} {l l' : List (Nat × AV)} (h : RebL r lo m l l') : ∀ t, fr l' t = rebA r lo m (fr l t) ∨ fr l' t = .bad := by
 induction h with
 | nil => intro t; right; rfl
 | @keep k c l l' h hs ih =>
  intro t
  simp only [fr]
  by_cases e : t = k
  ·simp only [e, if_true]; left; exact (rebA_noref h).symm
  ·simp only [e, if_false]; exact ih t
 | @part k n l l' h hs ih =>
  intro t
  simp only [fr]
  by_cases e : t = k
  ·simp only [e, if_true]; left; simp [rebA, h]
  ·simp only [e, if_false]; exact ih t
 | @bad k c l l' hs ih =>
  intro t
  simp only [fr]
  by_cases e : t = k
  ·simp only [e, if_true]; right; trivial
  ·simp only [e, if_false]; exact ih t
def boxOk (r : Nat) : List (Nat × Root) → Bool
 | [] => true
 | (_, .box cs) :: O => norefAs r cs && boxOk r O
 | _ :: O => boxOk r O
theorem boxOk_at {r : Nat} : ∀ {O : List (Nat × Root)} {q : Nat} {cs : List AV}, boxOk r O = true → fo O q = some (.box cs) → norefAs r cs = true
 | [], q, cs, _, h => by simp [fo] at h
 | (k, .box ds) :: O, q, cs, hb, h => by
  simp only [boxOk, Bool.and_eq_true] at hb
  simp only [fo] at h
  split at h
  ·cases h; exact hb.1
  ·exact boxOk_at hb.2 h
 | (k, .row _ _ _) :: O, q, cs, hb, h => by
  simp only [boxOk] at hb
  simp only [fo] at h
  split at h
  ·cases h
  ·exact boxOk_at hb h
 | (k, .map _) :: O, q, cs, hb, h => by
  simp only [boxOk] at hb
  simp only [fo] at h
  split at h
  ·cases h
  ·exact boxOk_at hb h
 | (k, .dead) :: O, q, cs, hb, h => by
  simp only [boxOk] at hb
  simp only [fo] at h
  split at h
  ·cases h
  ·exact boxOk_at hb h
theorem sub_len {α : Type} {A : List α} {lo hi : Int} (h : 0 ≤ lo ∧ lo ≤ hi ∧ hi ≤ A.length) : (sub A lo hi).length = hi.toNat - lo.toNat := by
 unfold sub
 rw [List.length_drop, List.length_take]
 omega
theorem sub_drop {α : Type} {A : List α} {lo hi : Int} : sub A lo hi = (A.drop lo.toNat).take (hi.toNat - lo.toNat) := by
 unfold sub
 rw [List.drop_take]
section
variable {P : Program} {N : Fr} {Q : Post0}
theorem sim_rebF {α : Type} {e : α → V} {A : List α} {r sz n : Nat} {lo hi : Int} {own : Bool} {l l' : List (Nat × AV)} {O : List (Nat × Root)} (hr : fo O r = some (.row own sz (A.map e))) (g : 0 ≤ lo ∧ lo ≤ hi ∧ hi ≤ A.length)
  (hl : RebL r lo.toNat (hi.toNat - lo.toNat) l l') (ho : boxOk r O = true) {w0 : Base} {D0 : BSet} {a : Act} {w : World} (hs : Sim N w0 D0 (mkS l (fo O) n) a w) : Sim N w0 D0 (mkS l' (fo ((r, .row own sz ((sub A lo hi).map e)) :: O)) n) a w := by
 have h1 := sim_reb (r := r) (lo := lo.toNat) (m := hi.toNat - lo.toNat) (s := mkS l (fo O) n) hr (by rw [List.length_map]; omega) hs
 refine sim_weak (s := rebS r lo.toNat (hi.toNat - lo.toNat) (mkS l (fo O) n)) (fun t => ?_) ?_ (Nat.le_refl _) h1
 ·exact rebL_at hl t
 ·funext q
  show fo ((r, .row own sz ((sub A lo hi).map e)) :: O) q = (fo O q).map (rebR r lo.toNat (hi.toNat - lo.toNat) q)
  simp only [fo]
  by_cases c : q = r
  ·subst c
   rw [hr]
   simp [rebR, sub_drop, List.map_take, List.map_drop]
  ·simp only [c, if_false]
   cases hq : fo O q with
   | none => rfl
   | some x =>
    cases x with
    | row o z L => simp [rebR, c]
    | box cs => simp [rebR, rebAs_noref (boxOk_at ho hq)]
    | dead => rfl
    | map es => rfl
inductive FrzL (ks : List Nat) (s : St) : List (Nat × AV) → List (Nat × AV) → Prop
 | nil : FrzL ks s [] []
 | keep {t : Nat} {c : AV} {l l' : List (Nat × AV)} (hs : FrzL ks s l l') : FrzL ks s ((t, c) :: l) ((t, c) :: l')
 | fz {t : Nat} {c : AV} {v : V} {l l' : List (Nat × AV)} (h : snap true (onlyS s ks) 8 c = some v) (hs : FrzL ks s l l') : FrzL ks s ((t, c) :: l) ((t, .val none v) :: l')
theorem w_rebF {α : Type} {e : α → V} {A : List α} {r sz n : Nat} {lo hi : Int} {own : Bool} {c : MC} {l l' : List (Nat × AV)} {O : List (Nat × Root)} (hr : fo O r = some (.row own sz (A.map e))) (g : 0 ≤ lo ∧ lo ≤ hi ∧ hi ≤ A.length)
  (hl : RebL r lo.toNat (hi.toNat - lo.toNat) l l') (ho : boxOk r O = true) (h : W P N c (mkS l' (fo ((r, .row own sz ((sub A lo hi).map e)) :: O)) n) Q) : W P N c (mkS l (fo O) n) Q :=
 ⟨fun code hc w0 D0 a w hs => h.run code hc w0 D0 a w (sim_rebF hr g hl ho hs)⟩
end
section
variable {s : St} {x : X} {sz : Nat} {α : Type} {e : α → V} {A : List α}
theorem ev_slc_r {r m : Nat} {own : Bool} {lo hi : Int} {xl xh : Option X} (hx : s.get x = .sl r 0 m) (hm : m = A.length) (hr : s.objs r = some (.row own sz (A.map e))) (hl : bnd s 0 xl = some lo.toNat) (hh : bnd s m xh = some hi.toNat) (h : 0 ≤ lo ∧ lo ≤ hi ∧ hi ≤ A.length) : ev s (.slc x xl xh sz) = some (.sl r lo.toNat (hi.toNat - lo.toNat)) := by
 subst hm
 have h1 : lo.toNat ≤ hi.toNat := by omega
 have h2 : hi.toNat ≤ A.length := by omega
 simp only [ev, hx, hr, hl, hh, h1, h2, List.length_map, and_self, if_true, Nat.zero_add]
end
end Go.Ab
