/- Operations that make or change memory: new variables, new rows (own framework). -/
import Derived.Test.YthcojmhjnbebdaaDoorA6
set_option linter.unusedVariables false
set_option linter.unusedSimpArgs false
namespace Go.Ab
open Go.RowKit

section
variable {P : Program} {N : Fr} {w0 : Base} {D0 : BSet} {E : Env} {st : St} {a : Act} {w : World}

def Between (E : Env) (o1 o2 : Objs) (g : Nat) : Prop := ∃ r, live (o1 r) = true ∧ o2 r = some .dead ∧ E.own r g

theorem AvRep.sl_one {r off len : Nat} {x : Value} (h : AvRep E (.sl r off len) x) {own sz L} (ho : E.objs r = some (.row own sz L)) : x.oneCell' = true := by
  cases h with
  | sl hr h =>
    obtain ⟨_, hat⟩ := h _ _ _ ho
    unfold SlAt at hat
    split at hat
    · obtain ⟨⟨ad, rfl⟩, _⟩ := hat; rfl
    · obtain ⟨ad, c, rfl, _⟩ := hat; rfl
theorem AvRep.ptr_one {r i f : Nat} {x : Value} (h : AvRep E (.ptr r i f) x) (hl : cel (E.objs r) = true) : x.oneCell' = true := by
  cases h with
  | ptrRow hr h h' =>
    obtain ⟨ob, ho, hnd, hnm⟩ := cel_some hl
    cases ob with
    | row own sz L => obtain ⟨_, g, q, _, rfl⟩ := h _ _ _ ho; rfl
    | box cs => obtain ⟨_, g, _, rfl⟩ := h' _ ho; rfl
    | dead => exact absurd rfl hnd
    | map es => exact absurd rfl (hnm es)

theorem one_cells {x : Value} (h : x.oneCell' = true) : x.cells = #[x] := by cases x <;> simp_all [Value.oneCell', Value.cells]

theorem mks_rep (hE : SimE N w0 D0 E st a w) {src : Option Nat} (hs : SrcOk E src) : ∀ {cs : List V} {vs : List Value}, Reps w (Dof E src) false cs vs Emp → (∀ c ∈ cs, V.one c = true) → AvReps E (cs.map (mk src)) vs ∧ ∀ v ∈ vs, v.oneCell' = true
  | [], vs, h, _ => by cases h; exact ⟨.nil, by simp⟩
  | c :: cs, _, .cons h1 h2 _ s1 s2, hone => by
    obtain ⟨q1, q2⟩ := mks_rep hE hs (h2.wide s2) (fun c hc => hone c (by simp [hc]))
    refine ⟨.cons (mk_rep hE (h1.wide s1) hs) q1, ?_⟩
    intro v hv
    rcases List.mem_cons.1 hv with rfl | hv
    · exact h1.oneCell (hone c (by simp))
    · exact q2 v hv

theorem cellsAV_rep (hE : SimE N w0 D0 E st a w) {c : AV} {x : Value} (h : AvRep E c x) {cs : List AV} (hc : cellsAV st c = some cs) : AvReps E cs x.cells.toList ∧ ∀ v ∈ x.cells.toList, v.oneCell' = true := by
  have eo := hE.eo
  have single : x.oneCell' = true → AvReps E [c] x.cells.toList ∧ ∀ v ∈ x.cells.toList, v.oneCell' = true := by
    intro h1
    rw [one_cells h1]
    exact ⟨.cons h .nil, by simpa using h1⟩
  unfold cellsAV at hc
  split at hc
  · simp only [Option.some.injEq] at hc; subst hc
    cases h with
    | agg h1 h => exact ⟨by simpa [Value.cells] using h, by simpa [Value.cells] using h1⟩
  · simp only [Option.some.injEq] at hc; subst hc
    exact single (by cases h; rfl)
  · split at hc
    · rename_i own sz L ho
      simp only [Option.some.injEq] at hc; subst hc
      exact single (h.sl_one (by rw [eo]; exact ho))
    · cases hc
  · split at hc
    · rename_i hl
      simp only [Option.some.injEq] at hc; subst hc
      exact single (h.ptr_one (by rw [eo]; exact hl))
    · cases hc
  · split at hc
    · rename_i es ho
      simp only [Option.some.injEq] at hc; subst hc
      refine single ?_
      cases h with
      | mp hr h =>
        obtain ⟨g, _, rfl⟩ := h es (by rw [eo]; exact ho)
        rfl
    · cases hc
  · rename_i src v
    split at hc
    · rename_i src' cs' hv
      simp only [Option.some.injEq] at hc; subst hc
      obtain ⟨hr, hs⟩ := view_rep hE h hv
      cases hr with
      | agg h1 hr =>
        have := mks_rep hE hs hr h1
        simpa [Value.cells] using this
    · rename_i src' u hna hv
      simp only [Option.some.injEq] at hc; subst hc
      obtain ⟨hr, hs⟩ := view_rep hE h hv
      have h1 : V.one u = true := by cases u <;> first | rfl | (exfalso; exact hna _ rfl)
      have hx := hr.oneCell h1
      rw [one_cells hx]
      exact ⟨.cons (mk_rep hE hr hs) .nil, by simpa using hx⟩
    · cases hc
  · cases hc

/-- A part of an own row, with what it owns. -/
theorem row_part (hg : Good w0 D0 E) {r off len sz : Nat} {L : List V} {x : Value} (h : AvRep E (.sl r off len) x) (ho : E.objs r = some (.row true sz L)) :
    Rep E.w E.D true (.sl sz ((L.drop off).take len)) x (E.own r) := by
  cases h with
  | sl hr h =>
    obtain ⟨hle, hat⟩ := h _ _ _ ho
    have hroot := hg.roots r _ ho
    unfold SlAt at hat
    split at hat
    · rename_i hl
      obtain ⟨⟨ad, rfl⟩, rfl⟩ := hat
      simp only [List.take_zero]
      exact .nil _
    · rename_i g o hl
      obtain ⟨ad, c, rfl, hlc, hm, h1, h2, htt, cur, e, hh, hs⟩ := hat
      simp only [RootRep, hl] at hroot
      obtain ⟨vs, hb, hu, hrr⟩ := hroot
      have hlen : ((L.drop off).take len).length = len := by simp; omega
      have hnS := hg.ownS r (live_row ho) g o hl
      by_cases hc : c = 0
      · have hl0 : len = 0 := by omega
        subst hc
        subst hl0
        simp only [List.take_zero]
        rcases h2 rfl with rfl | ⟨o', rfl⟩
        · exact .nil _
        · have := Rep.slow (S := E.own r) (T := E.S r) (sz := sz) (L := []) (c := 0) (vs := []) (off := o') (g := g) (w := E.w) (D := E.D) (.inr ⟨o, hl⟩) (fun x hx => .inl hx) hnS ⟨cur, e, hh, by simp⟩ (by intro x hx; simp at hx) (by simpa using Reps.nil) (by simp) hm ⟨cur, e, hh, by simp⟩
          simpa using this
      · obtain rfl := h1 hc
        have hs := hs hc
        have := Rep.slow (S := E.own r) (T := E.S r) (sz := sz) (L := (L.drop off).take len) (c := c) (vs := (vs.drop (off * sz)).take (len * sz)) (off := o + off * sz) (g := g) (w := E.w) (D := E.D) (.inr ⟨o, hl⟩) (fun x hx => .inl hx) hnS
          (by
            obtain ⟨cur', e', b1, b2⟩ := hb
            refine ⟨cur', e', b1, fun j u hj => ?_⟩
            rw [List.getElem?_take] at hj
            split at hj
            · rw [List.getElem?_drop] at hj
              rw [Nat.add_assoc]
              exact b2 _ u hj
            · cases hj)
          hu.drop.take (by rw [mul_take_blk hu.drop, mul_drop_blk hu]; exact (hrr.drop _).take _) (by rw [hlen]; exact hlc) hm
          ⟨cur, e, hh, fun _ => by rw [Nat.add_mul] at hs; omega⟩
        rw [hlen] at this
        exact this

theorem scalar_one {v : V} (h : v.scalar = true) : v.one = true := by cases v <;> simp_all [V.scalar, V.one]

theorem dies_upd {o : Objs} {r : Nat} (h : Ab.live (o r) = true) : Dies o (Ab.upd o r (some .dead)) := by
  intro r'
  by_cases e : r' = r
  · subst e; exact .inr ⟨upd_same _ _ _, h⟩
  · exact .inl (upd_ne e)

theorem absorb1_rep (hg : Good w0 D0 E) {o1 o2 : Objs} (hd : Dies E.objs o1) {c : AV} {x : Value} (h : AvRep E c x) {v : V} (ha : absorb1 o1 c = some (v, o2)) :
    Dies o1 o2 ∧ v.one = true ∧ ∃ T, Rep E.w E.D true v x T ∧ ∀ g, T g → Between E o1 o2 g := by
  unfold absorb1 at ha
  split at ha
  · split at ha
    · rename_i hs
      simp only [Option.some.injEq, Prod.mk.injEq] at ha
      obtain ⟨rfl, rfl⟩ := ha
      cases h with
      | val0 h => exact ⟨Dies.refl _, scalar_one hs, Emp, scalar_any h hs, fun _ h => h.elim⟩
    · cases ha
  · split at ha
    · rename_i _ r off len _ sz L ho
      simp only [Option.some.injEq, Prod.mk.injEq] at ha
      obtain ⟨rfl, rfl⟩ := ha
      have hl : live (o1 r) = true := by rw [ho]; rfl
      obtain ⟨e, _⟩ := hd.live hl
      refine ⟨dies_upd hl, rfl, E.own r, row_part hg h (by rw [← e]; exact ho), fun g hg' => ⟨r, hl, upd_same _ _ _, hg'⟩⟩
    · cases ha
  · cases ha

theorem absorbL_rep (hg : Good w0 D0 E) : ∀ {cs : List AV} {o1 o2 : Objs} (hd : Dies E.objs o1) {xs : List Value} (h : AvReps E cs xs) {vs : List V} (ha : absorbL o1 cs = some (vs, o2)),
    Dies o1 o2 ∧ (∀ v ∈ vs, V.one v = true) ∧ ∃ T, Reps E.w E.D true vs xs T ∧ ∀ g, T g → Between E o1 o2 g
  | [], o1, o2, hd, xs, h, vs, ha => by
    simp only [absorbL, Option.some.injEq, Prod.mk.injEq] at ha
    obtain ⟨rfl, rfl⟩ := ha
    cases h
    exact ⟨Dies.refl _, by simp, Emp, .nil, fun _ h => h.elim⟩
  | c :: cs, o1, o2, hd, _, .cons h hs, vs, ha => by
    simp only [absorbL] at ha
    split at ha
    · rename_i v o3 h1
      split at ha
      · rename_i vs' o4 h2
        simp only [Option.some.injEq, Prod.mk.injEq] at ha
        obtain ⟨rfl, rfl⟩ := ha
        obtain ⟨d1, one1, T1, r1, b1⟩ := absorb1_rep hg hd h h1
        obtain ⟨d2, one2, T2, r2, b2⟩ := absorbL_rep hg (hd.trans d1) hs h2
        have up1 : ∀ g, Between E o1 o3 g → Between E o1 o4 g := by
          rintro g ⟨r, l, hdd, ho⟩
          refine ⟨r, l, ?_, ho⟩
          rcases d2 r with e | ⟨e, _⟩
          · rw [e]; exact hdd
          · exact e
        have up2 : ∀ g, Between E o3 o4 g → Between E o1 o4 g := by
          rintro g ⟨r, l, hdd, ho⟩
          exact ⟨r, (d1.live l).2, hdd, ho⟩
        refine ⟨d1.trans d2, ?_, fun g => T1 g ∨ T2 g, .cons r1 r2 ?_ (fun g h => .inl h) (fun g h => .inr h), ?_⟩
        · intro u hu
          rcases List.mem_cons.1 hu with rfl | hu
          · exact one1
          · exact one2 u hu
        · intro g t1 t2
          obtain ⟨r, l, hdd, ho⟩ := b1 g t1
          obtain ⟨r', l', hdd', ho'⟩ := b2 g t2
          by_cases e : r = r'
          · subst e; rw [hdd] at l'; cases l'
          · exact hg.apart r r' e (hd.live l).2 (hd.live (d1.live l').2).2 g ho ho'
        · rintro g (t | t)
          · exact up1 g (b1 g t)
          · exact up2 g (b2 g t)
      · cases ha
    · cases ha

theorem absorb_rep (hg : Good w0 D0 E) {o1 o2 : Objs} (hd : Dies E.objs o1) {c : AV} {x : Value} (h : AvRep E c x) {v : V} (ha : absorb o1 c = some (v, o2)) :
    Dies o1 o2 ∧ ∃ T, Rep E.w E.D true v x T ∧ ∀ g, T g → Between E o1 o2 g := by
  unfold absorb at ha
  split at ha
  · split at ha
    · rename_i vs o' h1
      simp only [Option.some.injEq, Prod.mk.injEq] at ha
      obtain ⟨rfl, rfl⟩ := ha
      cases h with
      | agg k1 h =>
        obtain ⟨d, one, T, r, b⟩ := absorbL_rep hg hd h h1
        exact ⟨d, T, .agg one r, b⟩
    · cases ha
  · split at ha
    · rename_i hp
      simp only [Option.some.injEq, Prod.mk.injEq] at ha
      obtain ⟨rfl, rfl⟩ := ha
      cases h with
      | val0 h => exact ⟨Dies.refl _, Emp, plain_any h hp, fun _ h => h.elim⟩
    · cases ha
  · obtain ⟨d, _, T, r, b⟩ := absorb1_rep hg hd h ha
    exact ⟨d, T, r, b⟩

theorem roL_rep : ∀ {cs : List AV} {xs : List Value} (h : AvReps E cs xs) {vs : List V} (ha : roL cs = some vs), (∀ v ∈ vs, V.one v = true) ∧ Reps E.w E.D false vs xs Emp
  | [], xs, h, vs, ha => by
    simp only [roL, Option.some.injEq] at ha
    subst ha
    cases h
    exact ⟨by simp, .nil⟩
  | c :: cs, _, .cons h hs, vs, ha => by
    unfold roL at ha
    split at ha
    · rename_i hnil
      cases hnil
    · rename_i v cs' hcs
      simp only [List.cons.injEq] at hcs
      obtain ⟨rfl, rfl⟩ := hcs
      split at ha
      · rename_i h1
        split at ha
        · rename_i vs' h2
          simp only [Option.some.injEq] at ha
          subst ha
          obtain ⟨one, r⟩ := roL_rep hs h2
          cases h with
          | val0 h =>
            refine ⟨?_, .cons h r (fun _ h => h.elim) (fun _ h => h) (fun _ h => h)⟩
            intro u hu
            rcases List.mem_cons.1 hu with rfl | hu
            · exact h1
            · exact one u hu
        · cases ha
      · cases ha
    · cases ha

theorem roMode_rep {c : AV} {x : Value} (h : AvRep E c x) {v : V} (ha : roMode c = some v) : Rep E.w E.D false v x Emp := by
  unfold roMode at ha
  split at ha
  · simp only [Option.some.injEq] at ha; subst ha
    cases h with
    | val0 h => exact h
  · obtain ⟨vs, hvs, rfl⟩ := Option.map_eq_some_iff.1 ha
    cases h with
    | agg h1 h =>
      obtain ⟨one, r⟩ := roL_rep h hvs
      exact .agg one r
  · cases ha

theorem elem_rep (hg : Good w0 D0 E) {o1 o2 : Objs} (hd : Dies E.objs o1) {c : AV} {x : Value} (h : AvRep E c x) {v : V} {fl : Bool} (ha : elem o1 c = some (v, fl, o2)) :
    Dies o1 o2 ∧ ∃ T, Rep E.w E.D fl v x T ∧ (∀ g, T g → Between E o1 o2 g) ∧ (fl = false → o2 = o1) := by
  unfold elem at ha
  split at ha
  · rename_i v' o' h1
    simp only [Option.some.injEq, Prod.mk.injEq] at ha
    obtain ⟨rfl, rfl, rfl⟩ := ha
    obtain ⟨d, T, r, b⟩ := absorb_rep hg hd h h1
    exact ⟨d, T, r, b, by simp⟩
  · split at ha
    · rename_i v' h1
      simp only [Option.some.injEq, Prod.mk.injEq] at ha
      obtain ⟨rfl, rfl, rfl⟩ := ha
      exact ⟨Dies.refl _, Emp, roMode_rep h h1, fun _ h => h.elim, fun _ => rfl⟩
    · cases ha
end
end Go.Ab
