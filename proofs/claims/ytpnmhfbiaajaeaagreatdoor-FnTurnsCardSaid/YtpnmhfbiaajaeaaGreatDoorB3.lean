import Derived.Test.YtpnmhfbiaajaeaaGreatDoorA30
set_option linter.unusedVariables false
set_option linter.unusedSimpArgs false
namespace Go.Ab
open Go.RowKit
mutual
def rebA (r lo m : Nat) : AV → AV
 | .sl q off len => if q = r then (if lo ≤ off ∧ off + len ≤ lo + m then .sl r (off - lo) len else .bad) else .sl q off len
 | .ptr q i f => if q = r then .bad else .ptr q i f
 | .agg cs => .agg (rebAs r lo m cs)
 | .tup cs => .tup (rebAs r lo m cs)
 | .fn f cs => .fn f (rebAs r lo m cs)
 | c => c
def rebAs (r lo m : Nat) : List AV → List AV
 | [] => []
 | c :: cs => rebA r lo m c :: rebAs r lo m cs
end
def rebR (r lo m q : Nat) : Root → Root
 | .row own sz L => if q = r then .row own sz ((L.drop lo).take m) else .row own sz L
 | .box cs => .box (rebAs r lo m cs)
 | .dead => .dead
 | .map es => .map es
def rebO (r lo m : Nat) (o : Objs) : Objs := fun q => (o q).map (rebR r lo m q)
theorem rebO_none {r lo m : Nat} {o : Objs} {q : Nat} : rebO r lo m o q = none ↔ o q = none := by simp [rebO]
theorem rebO_live {r lo m : Nat} {o : Objs} {q : Nat} : live (rebO r lo m o q) = live (o q) := by
 unfold rebO
 cases h : o q with
 | none => rfl
 | some x =>
  cases x with
  | row own sz L => by_cases e : q = r <;> simp [rebR, live, e]
  | box cs => rfl
  | dead => rfl
  | map es => rfl
section
variable {P : Program} {N : Fr} {w0 : Base} {D0 : BSet} {E : Env} {st : St} {a : Act} {w : World}
def Env.reb (E : Env) (r lo m : Nat) (own : Bool) (sz : Nat) : Env :=
 { E with objs := rebO r lo m E.objs, loc := fun q => if q = r then (E.loc r).map fun p => (p.1, p.2 + lo * sz) else E.loc q }
mutual
theorem AvRep.reb {r lo m : Nat} {own : Bool} {sz : Nat} {L : List V} (hr : E.objs r = some (.row own sz L)) (hm : lo + m ≤ L.length) : ∀ {c : AV} {x : Value}, AvRep E c x → AvRep (E.reb r lo m own sz) (rebA r lo m c) x
 | _, _, .val0 h => by simp only [rebA]; exact .val0 h
 | _, _, .val1 h1 h2 => by
  simp only [rebA]
  refine .val1 (fun h => h1 (rebO_none.1 h)) (fun h => h2 ?_)
  rw [← rebO_live (r := r) (lo := lo) (m := m)]; exact h
 | _, _, @AvRep.sl _ q off len x h1 h2 => by
  simp only [rebA]
  by_cases e : q = r
  ·subst e
   rw [if_pos rfl]
   split
   ·rename_i hb
    refine .sl (fun h => h1 (rebO_none.1 h)) ?_
    intro own' sz' L' ho
    have ho2 : rebO q lo m E.objs q = some (.row own' sz' L') := ho
    unfold rebO at ho2
    rw [hr] at ho2
    simp only [Option.map_some, rebR, if_true, Option.some.injEq, Root.row.injEq] at ho2
    obtain ⟨rfl, rfl, rfl⟩ := ho2
    obtain ⟨k1, k2⟩ := h2 _ _ _ hr
    refine ⟨by rw [List.length_take, List.length_drop]; omega, ?_⟩
    unfold SlAt at k2 ⊢
    have hloc : (E.reb q lo m own sz).loc q = (E.loc q).map fun p => (p.1, p.2 + lo * sz) := by simp [Env.reb]
    rw [hloc]
    cases hl : E.loc q with
    | none => rw [hl] at k2; exact k2
    | some p =>
     obtain ⟨g, o⟩ := p
     rw [hl] at k2
     obtain ⟨ad, c, rfl, q1, q2, q3, q4, qt, cur, ty, q5, q6⟩ := k2
     have e1 : lo * sz + (off - lo) * sz = off * sz := by rw [← Nat.add_mul]; congr 1; omega
     refine ⟨ad, c, rfl, q1, q2, fun h => ?_, q4, by rw [List.length_take, List.length_drop]; omega, cur, ty, q5, fun h => ?_⟩
     ·rw [q3 h, Nat.add_assoc, e1]
     ·have := q6 h
      have e2 : lo * sz + ((off - lo) + c) * sz = (off + c) * sz := by rw [← Nat.add_mul]; congr 1; omega
      rw [Nat.add_assoc, e2]; exact this
   ·exact .bad
  ·rw [if_neg e]
   refine .sl (fun h => h1 (rebO_none.1 h)) ?_
   intro own' sz' L' ho
   have ho2 : rebO r lo m E.objs q = some (.row own' sz' L') := ho
   unfold rebO at ho2
   obtain ⟨o, k1, k2⟩ := Option.map_eq_some_iff.1 ho2
   cases o <;> simp only [rebR] at k2
   ·rw [if_neg e] at k2
    simp only [Root.row.injEq] at k2
    obtain ⟨rfl, rfl, rfl⟩ := k2
    have hloc : (E.reb r lo m own sz).loc q = E.loc q := by simp [Env.reb, e]
    rw [hloc]
    exact h2 _ _ _ k1
   ·cases k2
   ·cases k2
   ·cases k2
 | _, _, @AvRep.ptrRow _ q i f x h1 h2 h3 => by
  simp only [rebA]
  by_cases e : q = r
  ·rw [if_pos e]; exact .bad
  ·rw [if_neg e]
   have hloc : (E.reb r lo m own sz).loc q = E.loc q := by simp [Env.reb, e]
   refine .ptrRow (fun h => h1 (rebO_none.1 h)) ?_ ?_
   ·intro own' sz' L' ho
    have ho2 : rebO r lo m E.objs q = some (.row own' sz' L') := ho
    unfold rebO at ho2
    obtain ⟨o, k1, k2⟩ := Option.map_eq_some_iff.1 ho2
    cases o <;> simp only [rebR] at k2
    ·rw [if_neg e] at k2
     simp only [Root.row.injEq] at k2
     obtain ⟨rfl, rfl, rfl⟩ := k2
     rw [hloc]
     exact h2 _ _ _ k1
    ·cases k2
    ·cases k2
    ·cases k2
   ·intro cs ho
    have ho2 : rebO r lo m E.objs q = some (.box cs) := ho
    unfold rebO at ho2
    obtain ⟨o, k1, k2⟩ := Option.map_eq_some_iff.1 ho2
    cases o <;> simp only [rebR] at k2
    ·rw [if_neg e] at k2; cases k2
    ·rw [hloc]
     exact h3 _ k1
    ·cases k2
    ·cases k2
 | _, _, .agg h1 h => by simp only [rebA]; exact .agg h1 (AvReps.reb hr hm h)
 | _, _, .tup h => by simp only [rebA]; exact .tup (AvReps.reb hr hm h)
 | _, _, .fn h => by simp only [rebA]; exact .fn (AvReps.reb hr hm h)
 | _, _, .bad => by simp only [rebA]; exact .bad
 | _, _, .ub => by simp only [rebA]; exact .ub
 | _, _, .e0 => by simp only [rebA]; exact .e0
 | _, _, @AvRep.mp _ q x h1 h2 => by
  simp only [rebA]
  refine .mp (fun h => h1 (rebO_none.1 h)) ?_
  intro es ho
  have ho2 : rebO r lo m E.objs q = some (.map es) := ho
  unfold rebO at ho2
  obtain ⟨o, k1, k2⟩ := Option.map_eq_some_iff.1 ho2
  cases o <;> simp only [rebR] at k2
  ·split at k2 <;> cases k2
  ·cases k2
  ·cases k2
  ·simp only [Root.map.injEq] at k2
   subst k2
   have e : q ≠ r := by rintro rfl; rw [hr] at k1; cases k1
   have hloc : (E.reb r lo m own sz).loc q = E.loc q := by simp [Env.reb, e]
   rw [hloc]
   exact h2 _ k1
theorem AvReps.reb {r lo m : Nat} {own : Bool} {sz : Nat} {L : List V} (hr : E.objs r = some (.row own sz L)) (hm : lo + m ≤ L.length) : ∀ {c : List AV} {x : List Value}, AvReps E c x → AvReps (E.reb r lo m own sz) (rebAs r lo m c) x
 | _, _, .nil => by simp only [rebAs]; exact .nil
 | _, _, .cons h hs => by simp only [rebAs]; exact .cons (AvRep.reb hr hm h) (AvReps.reb hr hm hs)
end
end
mutual
def norefA (r : Nat) : AV → Bool
 | .sl q _ _ => !(q == r)
 | .ptr q _ _ => !(q == r)
 | .agg cs => norefAs r cs
 | .tup cs => norefAs r cs
 | .fn _ cs => norefAs r cs
 | _ => true
def norefAs (r : Nat) : List AV → Bool
 | [] => true
 | c :: cs => norefA r c && norefAs r cs
end
mutual
theorem rebA_noref {r lo m : Nat} : ∀ {c : AV}, norefA r c = true → rebA r lo m c = c
 | .sl q _ _, h => by simp [norefA] at h; simp [rebA, h]
 | .ptr q _ _, h => by simp [norefA] at h; simp [rebA, h]
 | .agg cs, h => by simp only [norefA] at h; simp only [rebA, rebAs_noref h]
 | .tup cs, h => by simp only [norefA] at h; simp only [rebA, rebAs_noref h]
 | .fn _ cs, h => by simp only [norefA] at h; simp only [rebA, rebAs_noref h]
 | .val none _, _ => rfl
 | .val (some _) _, _ => rfl
 | .bad, _ => rfl
 | .ub, _ => rfl
 | .e0, _ => rfl
 | .mp _, _ => rfl
theorem rebAs_noref {r lo m : Nat} : ∀ {cs : List AV}, norefAs r cs = true → rebAs r lo m cs = cs
 | [], _ => rfl
 | c :: cs, h => by
  simp only [norefAs, Bool.and_eq_true] at h
  simp only [rebAs, rebA_noref h.1, rebAs_noref h.2]
end
inductive RebL (r lo m : Nat) : List (Nat × AV) → List (Nat × AV) → Prop
 | nil : RebL r lo m [] []
 | keep {t : Nat} {c : AV} {l l' : List (Nat × AV)} (h : norefA r c = true) (hs : RebL r lo m l l') : RebL r lo m ((t, c) :: l) ((t, c) :: l')
 | part {t n : Nat} {l l' : List (Nat × AV)} (h : n = m) (hs : RebL r lo m l l') : RebL r lo m ((t, .sl r lo m) :: l) ((t, .sl r 0 n) :: l')
 | bad {t : Nat} {c : AV} {l l' : List (Nat × AV)} (hs : RebL r lo m l l') : RebL r lo m ((t, c) :: l) ((t, .bad) :: l')
section
variable {P : Program} {N : Fr} {Q : Post0}
inductive FrzL (ks : List Nat) (s : St) : List (Nat × AV) → List (Nat × AV) → Prop
 | nil : FrzL ks s [] []
 | keep {t : Nat} {c : AV} {l l' : List (Nat × AV)} (hs : FrzL ks s l l') : FrzL ks s ((t, c) :: l) ((t, c) :: l')
 | fz {t : Nat} {c : AV} {v : V} {l l' : List (Nat × AV)} (h : snap true (onlyS s ks) 8 c = some v) (hs : FrzL ks s l l') : FrzL ks s ((t, c) :: l) ((t, .val none v) :: l')
end
section
variable {s : St} {x : X} {sz : Nat} {α : Type} {e : α → V} {A : List α}
end
end Go.Ab
