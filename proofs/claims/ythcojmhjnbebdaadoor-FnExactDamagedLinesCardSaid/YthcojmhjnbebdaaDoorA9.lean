/- append (own framework). -/
import Derived.Test.YthcojmhjnbebdaaDoorA8
set_option linter.unusedVariables false
set_option linter.unusedSimpArgs false
namespace Go.Ab
open Go.RowKit

section
variable {P : Program} {N : Fr} {w0 : Base} {D0 : BSet} {E : Env} {st : St} {a : Act} {w : World}

/-- A row that goes on in the block of one that ends. -/
theorem mk_inplace (hg : Good w0 D0 E) {o2 : Objs} (hd : Dies E.objs o2) {r g o : Nat} (hr : live (E.objs r) = true) (hrd : o2 r = some .dead) (hloc : E.loc r = some (g, o)) {id sz : Nat} (hf : E.objs id = none) {fl : Bool} {L : List V} {vs : List Value} {T : BSet}
    (h : Reps E.w (fun q => E.D q ∨ (fl = false ∧ Gone E o2 q ∧ q ≠ g)) fl (L.flatMap V.cells) vs T) (hT : fl = true → ∀ q, T q → Gone E o2 q ∧ q ≠ g) (hu : Uni sz L) {w' : World} {cur : Array Value} {e : TypeId}
    (hw : w'.heap[g]? = some (.cells cur e (0, 0))) (hoth : ∀ q, q ≠ g → w'.heap[q]? = E.w.heap[q]?) (hsz : w'.heap.size = E.w.heap.size) (hos : w'.os = E.w.os) (htp : w'.tape = E.w.tape) (hou : w'.output = E.w.output)
    {o' : Nat} (hc : ∀ (j : Nat) (u : Value), vs[j]? = some u → cur[o' + j]? = some u) {c : Nat} (hlc : L.length ≤ c) (hm : c ≤ maxLen) (hs : c ≠ 0 → o' + c * sz ≤ cur.size)
    (hsize : ∀ (cur0 : Array Value) (e0 : TypeId), E.w.heap[g]? = some (.cells cur0 e0 (0, 0)) → cur.size = cur0.size) :
    ∃ E', E.Le E' ∧ Good w0 D0 E' ∧ E'.w = w' ∧ E'.objs = upd o2 id (some (.row fl sz L)) ∧ AvRep E' (.sl id 0 L.length) (.slice (some ⟨g, o', none⟩) L.length c) := by
  have hgown : E.own r g := .inr ⟨o, hloc⟩
  obtain ⟨gi1, gi2, gi3⟩ := hg.ownIn r hr g hgown
  have hgone : Gone E o2 g := ⟨r, hr, hrd, hgown⟩
  have hm' : MkOk w0 E o2 w' (fun q => E.D q ∨ (fl = false ∧ Gone E o2 q ∧ q ≠ g)) id (some (g, o')) (fun q => fl = true ∧ T q) := by
    refine ⟨hd, hf, fun q h => .inl h, ?_, ?_, ?_, .inr ⟨?_, by omega, hos, htp, hou, fun k c1 e1 hc1 => by
      by_cases q : k = g
      · subst q; exact ⟨cur, e, hw, hsize c1 e1 hc1⟩
      · exact ⟨c1, e1, (hoth k q).trans hc1, rfl⟩⟩⟩
    · rintro q (h | ⟨_, h, _⟩)
      · exact .inl h
      · exact .inr (.inl h)
    · intro q hgo
      rcases hgo with ⟨hfl, ht⟩ | ⟨p, hp⟩
      · obtain ⟨hq, hne⟩ := hT hfl q ht
        have hq' := hq
        obtain ⟨r', hl, _, ho⟩ := hq
        obtain ⟨q1, q2, q3⟩ := hg.ownIn r' hl q ho
        refine ⟨.inl hq', by omega, ?_⟩
        rintro (h | ⟨h, _⟩)
        · exact q3 h
        · rw [hfl] at h; cases h
      · simp only [Option.some.injEq, Prod.mk.injEq] at hp
        obtain ⟨rfl, rfl⟩ := hp
        refine ⟨.inl hgone, by omega, ?_⟩
        rintro (h | ⟨_, _, h⟩)
        · exact gi3 h
        · exact h rfl
    · intro q p hp ⟨hfl, ht⟩
      simp only [Option.some.injEq, Prod.mk.injEq] at hp
      obtain ⟨rfl, rfl⟩ := hp
      exact (hT hfl _ ht).2 rfl
    · intro q hq
      by_cases e : q = g
      · subst e; exact .inl hgone
      · exact .inr (hoth q e)
  refine ⟨E.mkr o2 w' _ id (.row fl sz L) (some (g, o')) _, mkr_le hg hm', mkr_good hg hm' ?_, rfl, rfl, .sl (by simp [Env.mkr, upd_same]) ?_⟩
  · simp only [RootRep, Env.mkr, upd_same]
    refine ⟨vs, ⟨cur, e, hw, hc⟩, hu, ?_⟩
    have h' : Reps w' (fun q => E.D q ∨ (fl = false ∧ Gone E o2 q ∧ q ≠ g)) fl (L.flatMap V.cells) vs T := by
      refine h.keep ?_ ?_
      · rintro q (hq | ⟨hf', hq, hne⟩)
        · exact ⟨.inl hq, hoth q (fun e => gi3 (e ▸ hq))⟩
        · exact ⟨.inr ⟨hf', hq, hne⟩, hoth q hne⟩
      · intro hfl q ht
        exact hoth q (hT hfl q ht).2
    cases fl with
    | true => exact h'.wide (fun g hg' => ⟨rfl, hg'⟩)
    | false => exact h'.ro
  · intro own sz' L' ho
    simp only [Env.mkr, upd_same, Option.some.injEq, Root.row.injEq] at ho
    obtain ⟨rfl, rfl, rfl⟩ := ho
    refine ⟨by simp, ?_⟩
    simp only [SlAt, Env.mkr, upd_same]
    exact ⟨_, c, rfl, hlc, hm, fun _ => by simp, fun _ => .inr ⟨o', rfl⟩, by omega, cur, e, hw, fun hne => by simpa using hs hne⟩

/-- append of nothing. -/
theorem run_append_zero {t ty e : TypeId} {i : TypeInfo} (ht : P.underlying t = some (.slice e)) (hi : P.info? e = some i) (base : Option Addr) (n c : Nat) (hnc : n ≤ c) (y : Option Addr) (c2 : Nat) :
    (Builtin.append_ #[t, t] ty #[.slice base n c, .slice y 0 c2]).run P w = .ok (.slice base n c) w := by
  have hy : (Builtin.firstCells i.size 0 (.slice y 0 c2)).run P w = .ok #[] w := by
    cases y <;> simp [Builtin.firstCells, loadCells, loadCellsFrom]
  cases base with
  | none => simp [Builtin.append_, run_underlying ht, sizeOf, typeInfo, hi, Builtin.lenOf, hnc, hy]
  | some b => simp [Builtin.append_, run_underlying ht, sizeOf, typeInfo, hi, Builtin.lenOf, hnc, hy, storeCells]

/-- append where there is room. -/
theorem run_append_room' {t ty e : TypeId} {i : TypeInfo} (ht : P.underlying t = some (.slice e)) (hi : P.info? e = some i) (g o n c : Nat) (cur : Array Value) (e' : TypeId) (hg : w.heap[g]? = some (.cells cur e' (0, 0)))
    (ad : Addr) (m c2 : Nat) (news : List Value) (hl : news.length = m * i.size) (hnews : ∀ (j : Nat) (u : Value), news[j]? = some u → w.cell? (ad.add j) = some u) (h1 : ∀ u ∈ news, u.oneCell' = true)
    (hroom : n + m ≤ c) (hfit : o + n * i.size + news.length ≤ cur.size) :
    (Builtin.append_ #[t, t] ty #[.slice (some ⟨g, o, none⟩) n c, .slice (some ad) m c2]).run P w =
      .ok (.slice (some ⟨g, o, none⟩) (n + m) c) (w.setRow g (cur.toList.take (o + n * i.size) ++ news ++ cur.toList.drop (o + n * i.size + news.length)).toArray) := by
  have hf := run_firstCells_some (P := P) w i.size m ad m c2 news hl hnews
  have hst := run_storeCells_at P g (o + n * i.size) e' news 0 cur w hg (by simpa using hfit) h1
  simp only [Nat.add_zero] at hst
  simp [Builtin.append_, run_underlying ht, sizeOf, typeInfo, hi, Builtin.lenOf, hroom, hf, addr_add, hst]

theorem Reps.ones {D : BSet} : ∀ {o : Bool} {cs : List V} {vs : List Value} {S : BSet}, Reps w D o cs vs S → (∀ c ∈ cs, V.one c = true) → ∀ v ∈ vs, v.oneCell' = true
  | _, _, _, _, .nil, _ => by simp
  | _, _, _, _, .cons h1 h2 _ _ _, hone => by
    intro v hv
    rcases List.mem_cons.1 hv with rfl | hv
    · exact h1.oneCell (hone _ (by simp))
    · exact Reps.ones h2 (fun c hc => hone c (by simp [hc])) v hv
theorem Uni.flat_one {sz : Nat} {L : List V} (h : Uni sz L) : ∀ c ∈ L.flatMap V.cells, V.one c = true := by
  intro c hc
  obtain ⟨x, hx, hcx⟩ := List.mem_flatMap.1 hc
  exact (h x hx).2 c hcx
theorem Uni.append {sz : Nat} {L L' : List V} (h : Uni sz L) (h' : Uni sz L') : Uni sz (L ++ L') := by
  intro x hx
  rcases List.mem_append.1 hx with hx | hx
  · exact h x hx
  · exact h' x hx

/-- append, as far as memory goes: the old part of root r and the news make the new row. -/
theorem append_core (hg : Good w0 D0 E) {t ty e : TypeId} {i : TypeInfo} {z : Value} (ht : P.underlying t = some (.slice e)) (hi : P.info? e = some i) (hz : i.zero = some z) (hzs : z.cells.size = i.size)
    {r off len : Nat} {own : Bool} {L : List V} {x : Value} (hx : AvRep E (.sl r off len) x) (ho : E.objs r = some (.row own i.size L))
    {o2 : Objs} (hd : Dies E.objs o2) (hrd : o2 r = some .dead) {id : Nat} (hf : E.objs id = none) {fl : Bool}
    {ad2 : Option Addr} {m c2 : Nat} {news : List Value} {L2 : List V} (hm2 : L2.length = m) (hu2 : Uni i.size L2) (hnl : news.length = m * i.size)
    (hsrc : m ≠ 0 → ∃ ad, ad2 = some ad ∧ ∀ (j : Nat) (u : Value), news[j]? = some u → E.w.cell? (ad.add j) = some u) (h1 : ∀ u ∈ news, u.oneCell' = true)
    (hfl : fl = true → own = true) (T2 : BSet) (hr2 : Reps E.w (fun q => E.D q ∨ (fl = false ∧ Gone E o2 q ∧ ¬ E.own r q)) fl (L2.flatMap V.cells) news T2) (hT2 : ∀ q, T2 q → Gone E o2 q ∧ ¬ E.own r q)
    (hmax : len + m ≤ maxLen) (hby : (len + m) * i.bytes ≤ 140737488355328) :
    ∃ v w' E', (Builtin.append_ #[t, t] ty #[x, .slice ad2 m c2]).run P E.w = .ok v w' ∧ E.Le E' ∧ Good w0 D0 E' ∧ E'.w = w' ∧ E'.objs = upd o2 id (some (.row fl i.size ((L.drop off).take len ++ L2))) ∧ AvRep E' (.sl id 0 (len + m)) v := by
  have hlr : live (E.objs r) = true := live_row ho
  obtain ⟨ad, c, vs, rfl, hlc, hcm, hvl, hrv, huv, hle, hpl⟩ := part_cells hg hx ho
  have hlen : ((L.drop off).take len).length = len := by simp; omega
  have hLen : ((L.drop off).take len ++ L2).length = len + m := by rw [List.length_append, hlen, hm2]
  have hU : Uni i.size ((L.drop off).take len ++ L2) := huv.append hu2
  have hSgone : ∀ q, E.S r q → Gone E o2 q := fun q hq => ⟨r, hlr, hrd, .inl hq⟩
  -- the new row's cells, and what they own
  have hReps : ∀ (X : Nat → Prop), (∀ q, X q → ¬ E.S r q) → (∀ q, X q → E.own r q) →
      Reps E.w (fun q => E.D q ∨ (fl = false ∧ Gone E o2 q ∧ ¬ X q)) fl (((L.drop off).take len ++ L2).flatMap V.cells) (vs ++ news) (fun q => E.S r q ∨ T2 q) := by
    intro X hX hXo
    rw [List.flatMap_append]
    cases fl with
    | true =>
      obtain rfl := hfl rfl
      refine Reps.append (hrv.keep (fun q hq => ⟨.inl hq, rfl⟩) (fun _ _ _ => rfl)) (hr2.keep (fun q hq => ⟨hq.imp (fun h => h) (fun h => by simp at h), rfl⟩) (fun _ _ _ => rfl)) ?_ (fun _ h => .inl h) (fun _ h => .inr h)
      intro q h1 h2
      exact (hT2 q h2).2 (.inl h1)
    | false =>
      refine Reps.append (S1 := Emp) (S2 := Emp) ?_ ?_ (fun _ h => h.elim) (fun _ h => h.elim) (fun _ h => h.elim)
      · cases own with
        | true => exact Reps.lend (fun q hq => .inl hq) hrv (fun _ q hq => .inr ⟨rfl, hSgone q hq, fun hx => hX q hx hq⟩)
        | false => exact (hrv.keep (fun q hq => ⟨.inl hq, rfl⟩) (fun h => by cases h)).ro
      · exact (hr2.keep (D' := fun q => E.D q ∨ (false = false ∧ Gone E o2 q ∧ ¬ X q)) (fun q hq => ⟨hq.imp (fun h => h) (fun h => ⟨rfl, h.2.1, fun hx => h.2.2 (hXo q hx)⟩), rfl⟩) (fun h => by cases h)).ro
  by_cases hm0 : m = 0
  · -- nothing is appended
    subst hm0
    have hL2 : L2 = [] := List.eq_nil_of_length_eq_zero hm2
    subst hL2
    have hn0 : news = [] := List.eq_nil_of_length_eq_zero (by simpa using hnl)
    subst hn0
    have hrun := run_append_zero (P := P) (w := E.w) (ty := ty) ht hi ad len c hlc ad2 c2
    rcases hpl with ⟨rfl, rfl⟩ | ⟨g, o, cur, e', hl, rfl, hh, hs, hcells⟩
    · have hl0 : len = 0 := by omega
      subst hl0
      have hm : MkOk w0 E o2 E.w E.D id none Emp := ⟨hd, hf, fun g h => h, fun g h => .inl h, (fun g h => by rcases h with h | ⟨q, h⟩ <;> cases h), (fun g q h => by cases h), .inl (Below.refl _ _)⟩
      refine ⟨_, _, E.mkr o2 E.w E.D id (.row fl i.size []) none Emp, hrun, mkr_le hg hm, mkr_good hg hm (by simp [RootRep, Env.mkr, upd_same]), rfl, by simp [Env.mkr], .sl (by simp [Env.mkr, upd_same]) ?_⟩
      intro own' sz' L' ho'
      simp only [Env.mkr, upd_same, Option.some.injEq, Root.row.injEq] at ho'
      obtain ⟨rfl, rfl, rfl⟩ := ho'
      exact ⟨by simp, by simp [SlAt, Env.mkr, upd_same]⟩
    · have hgr : E.own r g := .inr ⟨o, hl⟩
      have hnS := hg.ownS r hlr g o hl
      have R := hReps (fun q => q = g) (fun q hq => by subst hq; exact hnS) (fun q hq => by subst hq; exact hgr)
      obtain ⟨E', h1', h2', h3', h4', h5'⟩ := mk_inplace hg hd hlr hrd hl hf (sz := i.size) (fl := fl) (w' := E.w) (cur := cur) (e := e') (o' := o + off * i.size) (c := c) R
        (fun _ q hq => by
          rcases hq with hq | hq
          · exact ⟨hSgone q hq, fun e => hnS (e ▸ hq)⟩
          · exact ⟨(hT2 q hq).1, fun e => (hT2 q hq).2 (e ▸ hgr)⟩) hU hh (fun _ _ => rfl) rfl rfl rfl rfl (by simpa using hcells) (by rw [hLen]; omega) hcm (fun _ => by rw [Nat.add_mul] at hs; omega) (fun c0 e0 h0 => by rw [hh] at h0; simp only [Option.some.injEq, Obj.cells.injEq] at h0; rw [h0.1])
      rw [hLen] at h5'
      exact ⟨_, _, E', hrun, h1', h2', h3', h4', h5'⟩
  · obtain ⟨ad', rfl, hsrc'⟩ := hsrc hm0
    have hvones : ∀ v ∈ vs, v.oneCell' = true := Reps.ones hrv huv.flat_one
    have hones : ∀ v ∈ vs ++ news, v.oneCell' = true := by
      intro v hv
      rcases List.mem_append.1 hv with hv | hv
      · exact hvones v hv
      · exact h1 v hv
    by_cases hroom : len + m ≤ c
    · -- there is room
      rcases hpl with ⟨rfl, rfl⟩ | ⟨g, o, cur, e', hl, rfl, hh, hs, hcells⟩
      · omega
      · have hgr : E.own r g := .inr ⟨o, hl⟩
        have hnS := hg.ownS r hlr g o hl
        have hmul : (off + c) * i.size = off * i.size + c * i.size := Nat.add_mul _ _ _
        have hmul2 : (len + m) * i.size = len * i.size + m * i.size := Nat.add_mul _ _ _
        have hmul3 : (len + m) * i.size ≤ c * i.size := Nat.mul_le_mul_right _ hroom
        have hfit : o + off * i.size + len * i.size + news.length ≤ cur.size := by rw [hnl]; omega
        have hrun := run_append_room' (P := P) (w := E.w) (ty := ty) ht hi g (o + off * i.size) len c cur e' hh ad' m c2 news hnl hsrc' h1 hroom hfit
        have R := hReps (fun q => q = g) (fun q hq => by subst hq; exact hnS) (fun q hq => by subst hq; exact hgr)
        obtain ⟨E', h1', h2', h3', h4', h5'⟩ := mk_inplace hg hd hlr hrd hl hf (sz := i.size) (fl := fl) (w' := E.w.setRow g (cur.toList.take (o + off * i.size + len * i.size) ++ news ++ cur.toList.drop (o + off * i.size + len * i.size + news.length)).toArray) (e := e') (o' := o + off * i.size) (c := c) R
          (fun _ q hq => by
            rcases hq with hq | hq
            · exact ⟨hSgone q hq, fun e => hnS (e ▸ hq)⟩
            · exact ⟨(hT2 q hq).1, fun e => (hT2 q hq).2 (e ▸ hgr)⟩) hU (setRow_heap E.w g cur _ e' _ hh) (fun q hq => setRow_other E.w g q _ hq) (by simp [World.setRow]) rfl rfl rfl
          (by
            intro j u hj
            simp only [List.getElem?_toArray]
            rw [List.getElem?_append] at hj
            have hA : (cur.toList.take (o + off * i.size + len * i.size)).length = o + off * i.size + len * i.size := by simp; omega
            split at hj
            · rename_i hlt
              rw [List.getElem?_append_left (by rw [List.length_append, hA]; omega), List.getElem?_append_left (by rw [hA]; omega), List.getElem?_take, if_pos (by omega)]
              simpa using hcells j u hj
            · rename_i hge
              have hlt : j - vs.length < news.length := by
                rcases Nat.lt_or_ge (j - vs.length) news.length with h | h
                · exact h
                · rw [List.getElem?_eq_none h] at hj; cases hj
              rw [List.getElem?_append_left (by rw [List.length_append, hA]; omega), List.getElem?_append_right (by rw [hA]; omega), hA]
              rw [show o + off * i.size + j - (o + off * i.size + len * i.size) = j - vs.length by omega]
              exact hj)
          (by rw [hLen]; exact hroom) hcm (fun _ => by simp; omega) (fun c0 e0 h0 => by rw [hh] at h0; simp only [Option.some.injEq, Obj.cells.injEq] at h0; rw [← h0.1]; simp; omega)
        rw [hLen] at h5'
        exact ⟨_, _, E', hrun, h1', h2', h3', h4', h5'⟩
    · -- a new array
      have hge := grownCap_ge E.w (len + m) c e
      have hgm := grownCap_le_maxLen E.w (len + m) c e hmax
      have R := hReps (fun _ => False) (fun q h => h.elim) (fun q h => h.elim)
      have R' : Reps E.w (fun q => E.D q ∨ (fl = false ∧ Gone E o2 q)) fl (((L.drop off).take len ++ L2).flatMap V.cells) (vs ++ news) (fun q => E.S r q ∨ T2 q) :=
        R.keep (fun q hq => ⟨hq.imp (fun h => h) (fun h => ⟨h.1, h.2.1⟩), rfl⟩) (fun _ _ _ => rfl)
      have hTg : fl = true → ∀ q, (E.S r q ∨ T2 q) → Gone E o2 q := fun _ q hq => hq.elim (hSgone q) (fun h => (hT2 q h).1)
      have hsmall : len + m ≤ 9223372036854775807 := by simp only [maxLen] at hmax; omega
      have hsum : (vs ++ news).length = (len + m) * i.size := by rw [List.length_append, hvl, hnl, Nat.add_mul]
      have fin : ∀ w', (w' = E.w.drew.alloc (.cells (vs.toArray ++ news.toArray ++ Builtin.zeroCells z.cells (grownCap E.w (len + m) c e - (len + m))) e)) →
          (Builtin.append_ #[t, t] ty #[.slice ad len c, .slice (some ad') m c2]).run P E.w = .ok (.slice (some ⟨E.w.heap.size, 0, none⟩) (len + m) (grownCap E.w (len + m) c e)) w' →
          ∃ v w' E', (Builtin.append_ #[t, t] ty #[.slice ad len c, .slice (some ad') m c2]).run P E.w = .ok v w' ∧ E.Le E' ∧ Good w0 D0 E' ∧ E'.w = w' ∧ E'.objs = upd o2 id (some (.row fl i.size ((L.drop off).take len ++ L2))) ∧ AvRep E' (.sl id 0 (len + m)) v := by
        intro w' hw' hrun
        obtain ⟨E', h1', h2', h3', h4', h5'⟩ := mk_row hg hd hf (sz := i.size) (fl := fl) R' hTg hU (w' := w') (.inr hw') (by
            intro j u hj
            have hlt : j < (vs ++ news).length := by
              rcases Nat.lt_or_ge j (vs ++ news).length with h | h
              · exact h
              · rw [List.getElem?_eq_none h] at hj; cases hj
            rw [Array.getElem?_append_left (by simpa using hlt)]
            simpa using hj) hones (c := grownCap E.w (len + m) c e) (by rw [hLen]; exact hge) hgm (fun _ => by
            have hsz : (vs.toArray ++ news.toArray ++ Builtin.zeroCells z.cells (grownCap E.w (len + m) c e - (len + m))).size = (vs ++ news).length + (grownCap E.w (len + m) c e - (len + m)) * i.size := by
              simp [size_zeroCells, hzs]
            rw [hsz, hsum, ← Nat.add_mul]
            exact Nat.mul_le_mul_right _ (by omega))
        rw [hLen] at h5'
        exact ⟨_, w', E', hrun, h1', h2', h3', h4', h5'⟩
      rcases hpl with ⟨rfl, rfl⟩ | ⟨g, o, cur, e', hl, rfl, hh, hs, hcells⟩
      · have hl0 : len = 0 := by omega
        subst hl0
        cases ad with
        | none =>
          have hrun := run_append_nil (P := P) E.w t ty e i z ht hi hz ad' m c2 news hnl hsrc' (by omega) (by omega) (by simp only [Nat.zero_add] at hby; omega)
          refine fin _ rfl ?_
          simpa using hrun
        | some b =>
          have hrun := run_append_grow (P := P) E.w t ty e i z ht hi hz b 0 0 [] (by simp) (by simp) ad' m c2 news hnl hsrc' (by omega) (by omega) (growslice_fits (by omega) hby)
          exact fin _ rfl (by simpa using hrun)
      · have hrun := run_append_grow (P := P) E.w t ty e i z ht hi hz ⟨g, o + off * i.size, none⟩ len c vs hvl (fun j v hj => by rw [addr_add]; simp [World.cell?, hh, hcells j v hj]) ad' m c2 news hnl hsrc' (by omega) (by omega) (growslice_fits (by omega) hby)
        exact fin _ rfl hrun
end
end Go.Ab
