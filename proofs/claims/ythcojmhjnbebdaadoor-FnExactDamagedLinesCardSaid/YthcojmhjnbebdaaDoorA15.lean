/- make, append, stores: each does what 'eff' says (own framework). -/
import Derived.Test.YthcojmhjnbebdaaDoorA14
set_option linter.unusedVariables false
set_option linter.unusedSimpArgs false
namespace Go.Ab
open Go.RowKit

section
variable {P : Program} {N : Fr} {w0 : Base} {D0 : BSet} {E : Env} {st : St} {a : Act} {w : World}

theorem eff_mks (hE : SimE N w0 D0 E st a w) {id : Nat} (hf : st.objs id = none) {t : TypeId} {p q : Operand} {m : FO} (hc : compMks P t p q = some m) {av : AV} {ob : Objs} (he : eff st id m = some (av, ob)) :
    ∃ E' v, E.Le E' ∧ Good w0 D0 E' ∧ E'.objs = ob ∧ (Instr.makeSlice t (a.eval p) (a.eval q)).run P w = .ok v E'.w ∧ AvRep E' av v := by
  have eo := hE.eo
  have ew := hE.ew
  unfold compMks at hc
  split at hc
  · rename_i e ht
    split at hc
    · rename_i i hi
      split at hc
      · rename_i z hz
        split at hc
        · rename_i zv l c hzv hl hcx
          split at hc
          · rename_i hzs
            simp only [Option.some.injEq] at hc; subst hc
            simp only [eff] at he
            split at he
            · rename_i ln cn h1 h2
              split at he
              · rename_i hcond
                obtain ⟨c0, c1, c2, c3⟩ := hcond
                simp only [Option.some.injEq, Prod.mk.injEq] at he
                obtain ⟨rfl, rfl⟩ := he
                obtain ⟨k1, e1⟩ := asI_rep hE (get_rep hE hl) h1
                obtain ⟨k2, e2⟩ := asI_rep hE (get_rep hE hcx) h2
                have hrun := run_make (P := P) w t e i z ht hi hz k1 k2 ln cn c0 c1 c3 c2
                rw [← e1, ← e2] at hrun
                have hzrep : Rep E.w E.D true (szV (cellSz P 6 e) zv) z Emp := ofConst_szO _ hzv
                have hzc := hzrep.cells
                have hU : Uni i.size (List.replicate ln.toNat (szV (cellSz P 6 e) zv)) := by
                  intro y hy
                  obtain ⟨_, rfl⟩ := List.mem_replicate.1 hy
                  exact ⟨by rw [hzc.1.length]; simpa using hzs, hzc.2⟩
                have hR := reps_replicate (w := E.w) (D := fun g => E.D g ∨ (true = false ∧ Gone E E.objs g)) (z := szV (cellSz P 6 e) zv) (v := z) (hzrep.ownD rfl) ln.toNat
                obtain ⟨E', le, g, hw, ho, hr⟩ := mk_row hE.good (Dies.refl _) (id := id) (by rw [eo]; exact hf) (sz := i.size) (fl := true) (L := List.replicate ln.toNat (szV (cellSz P 6 e) zv)) hR (fun _ q hq => hq.elim) hU
                  (w' := E.w.alloc (.cells (madeCells z.cells (cn.toNat * i.size)) e)) (.inl rfl) (by
                    intro j u hj
                    obtain ⟨q1, q2⟩ := replicate_cells hzs _ j u hj
                    have hle : ln.toNat * i.size ≤ cn.toNat * i.size := Nat.mul_le_mul_right _ (by omega)
                    have hlt : j < cn.toNat * i.size := by omega
                    have hmod : j % i.size < z.cells.size := by
                      rw [hzs]
                      exact Nat.mod_lt _ (by
                        rcases Nat.eq_zero_or_pos i.size with h | h
                        · rw [h] at hlt; omega
                        · exact h)
                    simp only [madeCells, Array.getElem?_map, Array.getElem?_range, hlt, if_true, Option.map_some, hzs]
                    rw [Array.getElem?_eq_getElem hmod] at q2
                    simp only [Option.some.injEq] at q2
                    rw [getElem!_pos z.cells _ hmod, q2]) (Reps.ones hR hU.flat_one) (c := cn.toNat) (by simp; omega) (by simp only [maxLen]; omega) (by intro _; simp [size_madeCells])
                rw [List.length_replicate] at hr
                refine ⟨E', _, le, g, by rw [ho, eo], ?_, hr⟩
                rw [hw, ew]
                exact hrun
              · cases he
            · cases he
          · cases hc
        · cases hc
      · cases hc
    · cases hc
  · cases hc

theorem srcOf_rep (hE : SimE N w0 D0 E st a w) {r sz : Nat} {o1 : Objs} (hd1 : Dies E.objs o1) {mv : Bool} {y : AV} {v : Value} (hy : AvRep E y v) (hlr : live (E.objs r) = true) (hl1 : live (o1 r) = true) {news : List V} {fl : Bool} {o2 : Objs} (hs : srcOf r o1 sz mv y = some (news, fl, o2)) :
    Dies o1 o2 ∧ live (o2 r) = true ∧ ∃ ad c vs T, v = .slice ad news.length c ∧ vs.length = news.length * sz ∧ (news.length ≠ 0 → ∃ b, ad = some b ∧ ∀ (j : Nat) (u : Value), vs[j]? = some u → E.w.cell? (b.add j) = some u) ∧
      Uni sz news ∧ (∀ X : BSet, (∀ q, X q → E.own r q) → Reps E.w (fun q => E.D q ∨ (fl = false ∧ Between E o1 o2 q ∧ ¬ X q)) fl (news.flatMap V.cells) vs T) ∧ (∀ q, T q → Between E o1 o2 q ∧ ¬ E.own r q) := by
  have eo := hE.eo
  have ew := hE.ew
  have hg := hE.good
  -- a part of a row
  have part : ∀ r2 off len own2 L2, E.objs r2 = some (.row own2 sz L2) → AvRep E (.sl r2 off len) v →
      ∃ ad c vs, v = .slice ad len c ∧ vs.length = len * sz ∧ (len ≠ 0 → ∃ b, ad = some b ∧ ∀ (j : Nat) (u : Value), vs[j]? = some u → E.w.cell? (b.add j) = some u) ∧ Uni sz ((L2.drop off).take len) ∧ Reps E.w E.D own2 (((L2.drop off).take len).flatMap V.cells) vs (E.S r2) ∧ ((L2.drop off).take len).length = len := by
    intro r2 off len own2 L2 ho hav
    obtain ⟨ad, c, vs, rfl, hlc, hm, hvl, hrv, hu, hle, hpl⟩ := part_cells hg hav ho
    refine ⟨ad, c, vs, rfl, hvl, ?_, hu, hrv, by simp; omega⟩
    intro hne
    rcases hpl with ⟨rfl, rfl⟩ | ⟨g, o, cur, e, hl, rfl, hh, hs, hcells⟩
    · omega
    · refine ⟨_, rfl, fun j u hj => ?_⟩
      rw [addr_add]
      simp [World.cell?, hh, hcells j u hj]
  -- elements that hold no slices
  have plain : ∀ {o : Bool} {D S : BSet} {D' : BSet} {o' : Bool} {vs : List Value}, Reps E.w D o (news.flatMap V.cells) vs S → news.all V.plain = true → Reps E.w D' o' (news.flatMap V.cells) vs Emp := by
    intro o D S D' o' vs h hp
    refine scalars_any h ?_
    intro c hc
    obtain ⟨x, hx, hcx⟩ := List.mem_flatMap.1 hc
    have := List.all_eq_true.1 hp x hx
    cases x <;> simp_all [V.plain, V.cells, V.scalar]
  unfold srcOf at hs
  split at hs
  · rename_i r2 off len
    split at hs
    · rename_i own2 sz2 L2 ho2
      split at hs
      · cases hs
      · rename_i hne
        have hne1 : r2 ≠ r := fun h => hne (.inl h)
        have hsz : sz2 = sz := Classical.byContradiction fun h => hne (.inr h)
        subst hsz
        have hl2 : live (o1 r2) = true := by rw [ho2]; rfl
        have hE2 : E.objs r2 = some (.row own2 sz2 L2) := by rw [← (hd1.live hl2).1]; exact ho2
        obtain ⟨ad, c, vs, hv, hvl, hsrc, hu, hrv, hlen⟩ := part r2 off len own2 L2 hE2 hy
        split at hs
        · simp only [Option.some.injEq, Prod.mk.injEq] at hs
          obtain ⟨rfl, rfl, rfl⟩ := hs
          have hbt : ∀ q, E.S r2 q → Between E o1 (upd o1 r2 (some .dead)) q := fun q hq => ⟨r2, hl2, upd_same _ _ _, .inl hq⟩
          refine ⟨dies_upd hl2, by rw [upd_ne (fun h => hne1 h.symm)]; exact hl1, ad, c, vs, fun q => own2 = true ∧ E.S r2 q, by rw [hlen]; exact hv, by rw [hlen]; exact hvl, by rw [hlen]; exact hsrc, hu, ?_, ?_⟩
          · intro X hX
            cases own2 with
            | true => exact (hrv.keep (fun q hq => ⟨.inl hq, rfl⟩) (fun _ _ _ => rfl)).wide (fun q hq => ⟨rfl, hq⟩)
            | false => exact (hrv.keep (fun q hq => ⟨.inl hq, rfl⟩) (fun h => by cases h)).ro
          · rintro q ⟨_, hq⟩
            exact ⟨hbt q hq, fun ho => hg.apart r2 r hne1 (live_row hE2) hlr q (.inl hq) ho⟩
        · split at hs
          · rename_i hall
            simp only [Option.some.injEq, Prod.mk.injEq] at hs
            obtain ⟨rfl, rfl, rfl⟩ := hs
            exact ⟨Dies.refl _, hl1, ad, c, vs, Emp, by rw [hlen]; exact hv, by rw [hlen]; exact hvl, by rw [hlen]; exact hsrc, hu, fun X hX => plain hrv hall, fun _ h => h.elim⟩
          · cases hs
    · cases hs
  · split at hs
    · rename_i sz2 L2
      split at hs
      · cases hs
      · rename_i hne
        have hsz : sz2 = sz := Classical.byContradiction fun h => hne h
        subst hsz
        simp only [Option.some.injEq, Prod.mk.injEq] at hs
        obtain ⟨rfl, rfl, rfl⟩ := hs
        cases hy with
        | val0 h =>
          have main : ∃ ad c vs, v = .slice ad L2.length c ∧ vs.length = L2.length * sz2 ∧ (L2.length ≠ 0 → ∃ b, ad = some b ∧ ∀ (j : Nat) (u : Value), vs[j]? = some u → E.w.cell? (b.add j) = some u) ∧ Uni sz2 L2 ∧ Reps E.w E.D false (L2.flatMap V.cells) vs Emp := by
            cases h with
            | nil => exact ⟨_, _, [], rfl, by simp, by simp, by intro x hx; simp at hx, by simpa using Reps.nil⟩
            | slro hD hb hu h hc hm => exact ⟨_, _, _, rfl, by rw [← h.length, hu.flat_length], fun _ => ⟨_, rfl, fun j u hj => by rw [addr_add]; exact blk_cell hb hj⟩, hu, h⟩
          obtain ⟨ad, c, vs, hv, hvl, hsrc, hu, hrv⟩ := main
          refine ⟨Dies.refl _, hl1, ad, c, vs, Emp, hv, hvl, hsrc, hu, ?_, fun _ h => h.elim⟩
          intro X hX
          cases hall : L2.all V.plain with
          | true => exact plain hrv hall
          | false => exact (hrv.keep (fun q hq => ⟨.inl hq, rfl⟩) (fun h => by cases h)).ro
    · cases hs
  · split at hs
    · rename_i q0 _ sz2 L2
      split at hs
      · cases hs
      · rename_i hne
        simp only [Option.some.injEq, Prod.mk.injEq] at hs
        obtain ⟨rfl, rfl, rfl⟩ := hs
        have hsz : sz2 = sz := Classical.byContradiction fun h => hne (.inl h)
        subst hsz
        have hlq : live (E.objs q0) = true := by
          cases hq : live (o1 q0) with
          | true => exact (hd1.live hq).2
          | false => exact absurd (.inr (.inl hq)) hne
        have hall : L2.all V.plain = true := by
          cases hq : L2.all V.plain with
          | true => rfl
          | false => exact absurd (.inr (.inr hq)) hne
        cases hy with
        | val1 hr h0 =>
          have h := h0 hlq
          clear h0
          have main : ∃ ad c vs, v = .slice ad L2.length c ∧ vs.length = L2.length * sz2 ∧ (L2.length ≠ 0 → ∃ b, ad = some b ∧ ∀ (j : Nat) (u : Value), vs[j]? = some u → E.w.cell? (b.add j) = some u) ∧ Uni sz2 L2 ∧ Reps E.w (fun g => E.D g ∨ E.S q0 g) false (L2.flatMap V.cells) vs Emp := by
            cases h with
            | nil => exact ⟨_, _, [], rfl, by simp, by simp, by intro x hx; simp at hx, by simpa using Reps.nil⟩
            | slro hD hb hu h hc hm => exact ⟨_, _, _, rfl, by rw [← h.length, hu.flat_length], fun _ => ⟨_, rfl, fun j u hj => by rw [addr_add]; exact blk_cell hb hj⟩, hu, h⟩
          obtain ⟨ad, c, vs, hv, hvl, hsrc, hu, hrv⟩ := main
          exact ⟨Dies.refl _, hl1, ad, c, vs, Emp, hv, hvl, hsrc, hu, fun X hX => plain hrv hall, fun _ h => h.elim⟩
    · cases hs
  · cases hs

theorem appTo_rep (hE : SimE N w0 D0 E st a w) {E1 : Env} {st1 : St} (hE1 : SimE N w0 D0 E1 st1 a w) {t ty e : TypeId} {i : TypeInfo} {z : Value} (ht : P.underlying t = some (.slice e)) (hi : P.info? e = some i) (hz : i.zero = some z) (hzs : z.cells.size = i.size)
    {r off len id : Nat} {own : Bool} {L : List V} {x v : Value} (hx : AvRep E1 (.sl r off len) x) (ho : st1.objs r = some (.row own i.size L)) (hf : st1.objs id = none) {y : AV} (hy : AvRep E1 y v) {mv : Bool} {av : AV} {ob : Objs}
    (he : appTo id r off len own L st1.objs y i.size i.bytes mv = some (av, ob)) :
    ∃ z w' E', (Builtin.append_ #[t, t] ty #[x, v]).run P w = .ok z w' ∧ E1.Le E' ∧ Good w0 D0 E' ∧ E'.w = w' ∧ E'.objs = ob ∧ AvRep E' av z := by
  have eo := hE1.eo
  have ew := hE1.ew
  have hg := hE1.good
  unfold appTo at he
  split at he
  · rename_i news fl o2 hs
    split at he
    · rename_i hb
      simp only [Option.some.injEq, Prod.mk.injEq] at he
      obtain ⟨rfl, rfl⟩ := he
      have ho' : E1.objs r = some (.row own i.size L) := by rw [eo]; exact ho
      have hd0 : Dies E1.objs st1.objs := by rw [eo]; exact Dies.refl _
      obtain ⟨d2, l2, ad, c, vs, T, rfl, hvl, hsrc, hu, hR, hT⟩ := srcOf_rep hE1 hd0 hy (live_row ho') (by rw [ho]; rfl) hs
      have hd : Dies E1.objs (upd o2 r (some .dead)) := (hd0.trans d2).trans (dies_upd l2)
      have hbt : ∀ q, Between E1 st1.objs o2 q → Gone E1 (upd o2 r (some .dead)) q := by
        rintro q ⟨r', h1, h2, h3⟩
        refine ⟨r', by rw [eo]; exact h1, ?_, h3⟩
        by_cases e : r' = r
        · subst e; exact upd_same _ _ _
        · rw [upd_ne e]; exact h2
      have hones : ∀ u ∈ vs, u.oneCell' = true := Reps.ones (hR (fun _ => False) (fun _ h => h.elim)) hu.flat_one
      obtain ⟨z', w', E', h1, h2, h3, h4, h5, h6⟩ := append_core (ty := ty) (P := P) hg ht hi hz hzs hx ho' hd (upd_same _ _ _) (id := id) (by rw [eo]; exact hf) (fl := own && fl) (ad2 := ad) (m := news.length) (c2 := c) (news := vs) (L2 := news) rfl hu hvl hsrc hones
        (fun h => (Bool.and_eq_true _ _ ▸ h : own = true ∧ fl = true).1) (fun q => (own && fl) = true ∧ T q) (by
          have hR' := hR (E1.own r) (fun _ h => h)
          cases fl with
          | true =>
            cases own with
            | true => exact (hR'.keep (fun q hq => ⟨hq.imp (fun h => h) (fun h => by simp at h), rfl⟩) (fun _ _ _ => rfl)).wide (fun q hq => ⟨rfl, hq⟩)
            | false => exact Reps.lend (fun q hq => hq.imp (fun h => h) (fun h => by simp at h)) hR' (fun _ q hq => .inr ⟨rfl, hbt q (hT q hq).1, (hT q hq).2⟩) |>.ro
          | false =>
            have e : (own && false) = false := by simp
            rw [e]
            exact (hR'.keep (fun q hq => ⟨hq.imp (fun h => h) (fun h => ⟨rfl, hbt q h.2.1, h.2.2⟩), rfl⟩) (fun h => by cases h)).ro)
        (fun q hq => ⟨hbt q (hT q hq.2).1, (hT q hq.2).2⟩) (by simp only [maxLen]; omega) hb.2
      rw [ew] at h1
      exact ⟨z', w', E', h1, h2, h3, h4, h5, h6⟩
    · cases he
  · cases he

theorem inApp_rep (hE : SimE N w0 D0 E st a w) {t ty e : TypeId} {i : TypeInfo} (ht : P.underlying t = some (.slice e)) (hi : P.info? e = some i) {r off len : Nat} {own : Bool} {L : List V} {x y : Value} {c : AV} (hx : AvRep E (.sl r off len) x) (ho : st.objs r = some (.row own i.size L)) (hy : AvRep E c y)
    {av : AV} {ob : Objs} (he : inApp st r off len own i.size L c = some (av, ob)) : ∃ z E', (Builtin.append_ #[t, t] ty #[x, y]).run P w = .ok z E'.w ∧ E.Le E' ∧ Good w0 D0 E' ∧ E'.objs = ob ∧ AvRep E' av z := by
  have eo := hE.eo
  have ew := hE.ew
  have hg := hE.good
  have ho' : E.objs r = some (.row own i.size L) := by rw [eo]; exact ho
  unfold inApp at he
  split at he
  · rename_i r2 off2 len2
    split at he
    · rename_i hcond
      obtain ⟨rfl, hs0, c1, c2, c3⟩ := hcond
      simp only [Option.some.injEq, Prod.mk.injEq] at he
      obtain ⟨rfl, rfl⟩ := he
      obtain ⟨ad, c, rfl, hcap⟩ := slice_room hg hx ho'
      obtain ⟨ad2, cc2, vs2, rfl, hlc2, hcm2, hvl2, hrv2, huv2, hle2, hpl2⟩ := part_cells hg hy ho'
      obtain ⟨ad1, cc1, vs1, hx1, hlc1, hcm1, hvl1, hrv1, huv1, hle1, hpl1⟩ := part_cells hg hx ho'
      simp only [Value.slice.injEq, true_and] at hx1
      obtain ⟨rfl, rfl⟩ := hx1
      by_cases h0 : len2 = 0
      · subst h0
        refine ⟨_, E, by rw [ew]; exact run_append_zero ht hi ad len c hlc1 ad2 cc2, Env.Le.refl E, hg, ?_, hx⟩
        rw [eo]
        funext q
        by_cases e : q = r2
        · subst e; rw [upd_same, ho]; simp
        · rw [upd_ne e]
      · have hs1 := hs0
        rcases hpl1 with ⟨q1, _⟩ | ⟨g, o, cur, e', hl, rfl, hh, hs, hcells⟩
        · omega
        rcases hpl2 with ⟨q2, _⟩ | ⟨g', o', cur', e2', hl', rfl, hh', hs', hcells'⟩
        · omega
        rw [hl] at hl'
        simp only [Option.some.injEq, Prod.mk.injEq] at hl'
        obtain ⟨rfl, rfl⟩ := hl'
        rw [hh] at hh'
        simp only [Option.some.injEq, Obj.cells.injEq, and_true] at hh'
        obtain ⟨rfl, rfl⟩ := hh'
        have hM : Reps E.w E.D own (((L.drop off2).take len2).flatMap V.cells) vs2 Emp := by
          refine scalars_any hrv2 ?_
          intro c' hc2
          obtain ⟨y, hy, hcy⟩ := List.mem_flatMap.1 hc2
          have := List.all_eq_true.1 c3 y hy
          cases y <;> simp_all [V.plain, V.cells, V.scalar]
        have hlen2 : ((L.drop off2).take len2).length = len2 := by simp; omega
        have hpos : 0 < vs2.length := by rw [hvl2]; exact Nat.mul_pos (by omega) (by omega)
        obtain ⟨E', le, g', hw, hob, hfit⟩ := write_row hg (k := off + len) ho' hl hM huv2 (by rw [hlen2]; omega) hpos hh
        rw [hlen2] at hob
        refine ⟨.slice (some ⟨g, o + off * i.size, none⟩) (len + len2) c, E', ?_, le, g', by rw [hob, eo], ?_⟩
        · have hrun := run_append_room' (P := P) (w := E.w) (ty := ty) ht hi g (o + off * i.size) len c cur e' hh ⟨g, o + off2 * i.size, none⟩ len2 cc2 vs2 hvl2 (fun j u hj => by
            rw [addr_add]
            exact blk_cell (vs := vs2) ⟨cur, e', _, hh, hcells'⟩ hj) (Reps.ones hM huv2.flat_one) (by omega) (by rw [Nat.add_mul] at hfit; omega)
          rw [hw, ← ew, hrun]
          have : o + off * i.size + len * i.size = o + (off + len) * i.size := by rw [Nat.add_mul]; omega
          rw [this]
        · have hle' := hx.le le
          cases hle' with
          | sl hr h =>
            refine .sl hr ?_
            intro own' sz' L' hL'
            obtain ⟨k1, k2⟩ := h own' sz' L' hL'
            rw [hob, upd_same] at hL'
            simp only [Option.some.injEq, Root.row.injEq] at hL'
            obtain ⟨rfl, rfl, rfl⟩ := hL'
            have hlL : (L.take (off + len) ++ (L.drop off2).take len2 ++ L.drop (off + len + len2)).length = L.length := by simp; omega
            refine ⟨by rw [hlL]; omega, ?_⟩
            unfold SlAt at k2 ⊢
            split at k2
            · obtain ⟨⟨_, h⟩, _⟩ := k2
              simp only [Value.slice.injEq] at h
              omega
            · obtain ⟨a', c', hx', q1, q2, q3, q4, q5, cu, et, q6, q7⟩ := k2
              simp only [Value.slice.injEq, true_and] at hx'
              obtain ⟨rfl, rfl⟩ := hx'
              exact ⟨_, _, rfl, by omega, q2, q3, q4, q5, cu, et, q6, q7⟩
    · cases he
  · cases he

theorem eff_clr (hE : SimE N w0 D0 E st a w) {id : Nat} {c : Call} {ty : TypeId} {m : FO} (hc : compClr P c = some m) {av : AV} {ob : Objs} (he : eff st id m = some (av, ob)) :
    ∃ E' v, E.Le E' ∧ Good w0 D0 E' ∧ E'.objs = ob ∧ (do let d ← resolve a.eval c ty; invoke d.target d.args).run P w = .ok (.value v) E'.w ∧ AvRep E' av v := by
  have eo := hE.eo
  have ew := hE.ew
  have hg := hE.good
  obtain ⟨callee, args, argTypes⟩ := c
  obtain ⟨args⟩ := args
  obtain ⟨argTypes⟩ := argTypes
  unfold compClr at hc
  simp only at hc
  split at hc
  · split at hc
    · rename_i p t
      split at hc
      · rename_i e ht
        split at hc
        · rename_i i hi
          split at hc
          · rename_i z hz
            split at hc
            · rename_i zv x hzv hx
              split at hc
              · rename_i hzs
                simp only [Option.some.injEq] at hc; subst hc
                simp only [eff] at he
                split at he
                · rename_i r off len hq
                  split at he
                  · rename_i own sz' L ho
                    split at he
                    · rename_i hcond
                      obtain ⟨rfl, hs0, hlen⟩ := hcond
                      simp only [Option.some.injEq, Prod.mk.injEq] at he
                      obtain ⟨rfl, rfl⟩ := he
                      have hgx := get_rep hE hx
                      rw [hq] at hgx
                      have ho' : E.objs r = some (.row own i.size L) := by rw [eo]; exact ho
                      have fin : ∀ {v : Value} {w' : World}, (Builtin.clear_ #[t] ty #[a.eval p]).run P w = .ok v w' → (do let d ← resolve a.eval { callee := .builtin .clear, args := ⟨[p]⟩, argTypes := ⟨[t]⟩ } ty; invoke d.target d.args).run P w = .ok (.value v) w' := by
                        intro v w' h
                        simp [resolve, invoke, builtin, h]
                      obtain ⟨ad, c, vs, hxv, hlc, hcm, hvl, hrv, huv, hle, hpl⟩ := part_cells hg hgx ho'
                      by_cases h0 : len = 0
                      · subst h0
                        refine ⟨E, .tuple #[], Env.Le.refl E, hg, ?_, fin ?_, by simpa [AV.undef] using AvRep.tup (E := E) AvReps.nil⟩
                        · rw [eo]
                          funext q
                          by_cases e : q = r
                          · subst e; rw [upd_same, ho]; simp
                          · rw [upd_ne e]
                        · rw [hxv, ew]
                          cases ad <;> simp [Builtin.clear_, run_under ht]
                      · rcases hpl with ⟨q1, _⟩ | ⟨g, o, cur, e', hl, rfl, hh, hs, hcells⟩
                        · omega
                        have hzrep : Rep E.w E.D own (szV (cellSz P 6 e) zv) z Emp := ofConst_szO _ hzv
                        have hzc := hzrep.cells
                        have hU : Uni i.size (List.replicate len (szV (cellSz P 6 e) zv)) := by
                          intro y hy
                          obtain ⟨_, rfl⟩ := List.mem_replicate.1 hy
                          exact ⟨by rw [hzc.1.length]; simpa using hzs, hzc.2⟩
                        have hR := reps_replicate hzrep len
                        have hns : (Builtin.zeroCells z.cells len).toList = (List.replicate len z).flatMap fun y => y.cells.toList := by
                          have hl1 : ((List.replicate len z).flatMap fun y => y.cells.toList).length = len * i.size := by
                            rw [← hR.length, hU.flat_length, List.length_replicate]
                          apply List.ext_getElem?
                          intro j
                          by_cases hj : j < len * i.size
                          · have hsome : ((List.replicate len z).flatMap fun y => y.cells.toList)[j]? = some (((List.replicate len z).flatMap fun y => y.cells.toList)[j]'(by rw [hl1]; exact hj)) := List.getElem?_eq_getElem _
                            obtain ⟨q1, q2⟩ := replicate_cells hzs _ j _ hsome
                            rw [hsome]
                            have hmod : j % i.size < z.cells.size := by
                              rw [hzs]
                              exact Nat.mod_lt _ (by
                                rcases Nat.eq_zero_or_pos i.size with h | h
                                · rw [h] at hj; omega
                                · exact h)
                            rw [Array.getElem?_eq_getElem hmod] at q2
                            simp only [Option.some.injEq] at q2
                            simp only [Builtin.zeroCells, Array.toList_map, Array.toList_range, List.getElem?_map, List.getElem?_range, hzs, hj, Option.map_some, if_true, List.getElem?_range hj]
                            rw [getElem!_pos z.cells _ hmod, q2]
                          · rw [List.getElem?_eq_none (l := (Builtin.zeroCells z.cells len).toList) (by simp [Builtin.zeroCells, hzs]; omega), List.getElem?_eq_none (l := (List.replicate len z).flatMap fun y => y.cells.toList) (by rw [hl1]; omega)]
                        have hpos : 0 < ((List.replicate len z).flatMap fun y => y.cells.toList).length := by
                          rw [← hR.length, hU.flat_length, List.length_replicate]; exact Nat.mul_pos (by omega) (by omega)
                        obtain ⟨E', le, g', hw, hob, hfit⟩ := write_row hg (k := off) ho' hl hR hU (by simpa using hlen) hpos hh
                        rw [List.length_replicate] at hob
                        refine ⟨E', .tuple #[], le, g', by rw [hob, eo], fin ?_, by simpa [AV.undef] using AvRep.tup (E := E') AvReps.nil⟩
                        have hst := run_storeCells_at P g (o + off * i.size) e' ((List.replicate len z).flatMap fun y => y.cells.toList) 0 cur E.w hh (by simpa using hfit) (Reps.ones hR hU.flat_one)
                        simp only [Nat.add_zero] at hst
                        rw [hxv, ← ew, hw]
                        obtain ⟨m, rfl⟩ : ∃ m, len = m + 1 := ⟨len - 1, by omega⟩
                        rw [← hns] at hst ⊢
                        have hzv' : (zeroValue e).run P E.w = .ok z E.w := zero_run (by unfold zeroOf; rw [hi]; exact hz)
                        simp [Builtin.clear_, run_under ht, hzv', hst]
                    · cases he
                  · cases he
                · cases he
              · cases hc
            · cases hc
          · cases hc
        · cases hc
      · cases hc
    · cases hc
  · cases hc

theorem eff_app (hE : SimE N w0 D0 E st a w) {id : Nat} (hf : ∀ k, k < 64 → st.objs (id + k) = none) {c : Call} {ty : TypeId} {mv : Bool} {m : FO} (hc : compApp P c mv = some m) {av : AV} {ob : Objs} (he : eff st id m = some (av, ob)) :
    ∃ E' v, E.Le E' ∧ Good w0 D0 E' ∧ E'.objs = ob ∧ (do let d ← resolve a.eval c ty; invoke d.target d.args).run P w = .ok (.value v) E'.w ∧ AvRep E' av v := by
  have eo := hE.eo
  have ew := hE.ew
  obtain ⟨callee, args, argTypes⟩ := c
  obtain ⟨args⟩ := args
  obtain ⟨argTypes⟩ := argTypes
  unfold compApp at hc
  simp only at hc
  split at hc
  · split at hc
    · rename_i p q t t'
      split at hc
      · rename_i htt
        subst htt
        split at hc
        · rename_i e ht
          split at hc
          · rename_i i hi
            split at hc
            · rename_i z hz
              split at hc
              · rename_i x y hx hy
                split at hc
                · rename_i hzs
                  simp only [Option.some.injEq] at hc; subst hc
                  have hgx := get_rep hE hx
                  have hgy := get_rep hE hy
                  have fin : ∀ {z : Value} {w' : World}, (Builtin.append_ #[t, t] ty #[a.eval p, a.eval q]).run P w = .ok z w' → (do let d ← resolve a.eval { callee := .builtin .append, args := ⟨[p, q]⟩, argTypes := ⟨[t, t]⟩ } ty; invoke d.target d.args).run P w = .ok (.value z) w' := by
                    intro z w' h
                    simp [resolve, invoke, builtin, h]
                  simp only [eff] at he
                  split at he
                  · rename_i _ sz0
                    have hp : a.eval p = .slice none 0 0 := by
                      unfold compX at hx
                      split at hx
                      · cases hx
                      · obtain ⟨v0, hv0, h0⟩ := Option.map_eq_some_iff.1 hx
                        simp only [X.c.injEq] at h0
                        subst h0
                        unfold ofConst at hv0
                        split at hv0
                        · obtain ⟨_, _, h1⟩ := Option.map_eq_some_iff.1 hv0
                          cases h1
                        · unfold ofConst1 at hv0
                          split at hv0 <;> simp at hv0
                          rfl
                      · cases hx
                      · cases hx
                    obtain ⟨E1, le1, g1, w1, o1, r1⟩ := mk_nil hE.good (id := id + 1) (sz := i.size) (by rw [eo]; exact hf 1 (by omega)) none
                    have hE1 : SimE N w0 D0 E1 { st with objs := upd st.objs (id + 1) (some (.row true i.size [])), lk := none } a w :=
                      ⟨g1, by rw [w1, ew], by rw [o1, eo], hE.size, hE.defers, fun t => (hE.tmps t).le le1, hE.fix, fun _ _ _ _ h => by cases h⟩
                    obtain ⟨z', w', E', h1, h2, h3, h4, h5, h6⟩ := appTo_rep (ty := ty) hE hE1 ht hi hz hzs (r := id + 1) (off := 0) (len := 0) (x := .slice none 0 0) r1 (upd_same _ _ _) (by
                      show upd st.objs (id + 1) _ id = none
                      rw [upd_ne (by omega)]
                      simpa using hf 0 (by omega)) (hgy.le le1) he
                    subst h4
                    rw [hp] at fin
                    exact ⟨E', z', le1.trans h2, h3, h5, fin h1, h6⟩
                  · split at he
                    · rename_i r off len hq
                      split at he
                      · rename_i own sz' L ho
                        split at he
                        · rename_i hsz
                          subst hsz
                          rw [hq] at hgx
                          split at he
                          · rename_i pr hap
                            simp only [Option.some.injEq] at he; subst he
                            obtain ⟨z', w', E', h1, h2, h3, h4, h5, h6⟩ := appTo_rep (ty := ty) hE hE ht hi hz hzs hgx ho (by simpa using hf 0 (by omega)) hgy hap
                            subst h4
                            exact ⟨E', z', h2, h3, h5, fin h1, h6⟩
                          · obtain ⟨z', E', h1, h2, h3, h5, h6⟩ := inApp_rep (ty := ty) hE ht hi hgx ho hgy he
                            exact ⟨E', z', h2, h3, h5, fin h1, h6⟩
                        · cases he
                      · cases he
                    · cases he
                · cases hc
              · cases hc
            · cases hc
          · cases hc
        · cases hc
      · cases hc
    · cases hc
  · cases hc

theorem eff_st (hE : SimE N w0 D0 E st a w) {id : Nat} {t : TypeId} {p q : Operand} {m : FO} (hc : compSt P t p q = some m) {av : AV} {ob : Objs} (he : eff st id m = some (av, ob)) :
    ∃ E', E.Le E' ∧ Good w0 D0 E' ∧ E'.objs = ob ∧ (Instr.storeAt t (a.eval p) (a.eval q)).run P w = .ok () E'.w ∧ av = .undef := by
  have eo := hE.eo
  have ew := hE.ew
  unfold compSt at hc
  split at hc
  · rename_i x v n hx hv hn
    simp only [Option.some.injEq] at hc; subst hc
    have hgx := get_rep hE hx
    have hgv := get_rep hE hv
    simp only [eff] at he
    split at he
    · rename_i r i f hq
      rw [hq] at hgx
      split at he
      · rename_i own sz L ho
        split at he
        · rename_i e hi
          split at he
          · rename_i u fl o2 hel
            split at he
            · rename_i hcond
              obtain ⟨c1, c2, c3⟩ := hcond
              simp only [Option.some.injEq, Prod.mk.injEq] at he
              obtain ⟨rfl, rfl⟩ := he
              have hd0 : Dies E.objs st.objs := by rw [eo]; exact Dies.refl _
              obtain ⟨d2, T, hr, hT, _⟩ := elem_rep hE.good hd0 hgv hel
              obtain ⟨w', E', h1, h2, h3, h4, h5⟩ := store_row (P := P) hE.good hgx (by rw [eo]; exact ho) hi (hd0.trans d2) c1 hr (fun q hq => by
                obtain ⟨r', k1, k2, k3⟩ := hT q hq
                exact ⟨r', by rw [eo]; exact k1, k2, k3⟩) c2 (by omega) c3 hn
              rw [ew] at h1
              subst h4
              exact ⟨E', h2, h3, h5, h1, rfl⟩
            · cases he
          · cases he
        · cases he
      · rename_i cs ho
        split at he
        · rename_i us hus
          split at he
          · rename_i hcond
            simp only [Option.some.injEq, Prod.mk.injEq] at he
            obtain ⟨rfl, rfl⟩ := he
            obtain ⟨k1, k2⟩ := cellsAV_rep hE hgv hus
            obtain ⟨w', E', h1, h2, h3, h4, h5⟩ := store_box (P := P) hE.good hgx (by rw [eo]; exact ho) k1 k2 hcond.1 hcond.2 hn
            rw [ew] at h1
            subst h4
            exact ⟨E', h2, h3, by rw [h5, eo], h1, rfl⟩
          · cases he
        · cases he
      · cases he
    · cases he
  · cases hc
end
end Go.Ab
