import Derived.Test.YtpnmhfbiaajaeaaGreatDoorA15
set_option linter.unusedVariables false
set_option linter.unusedSimpArgs false
namespace Go.Ab
open Go.RowKit Go.MapKept
section
variable {P : Program} {N : Fr} {w0 : Base} {D0 : BSet} {E : Env} {st : St} {a : Act} {w : World}
theorem mk_map (hg : Good w0 D0 E) {id : Nat} (hf : E.objs id = none) :
  ∃ E', E.Le E' ∧ Good w0 D0 E' ∧ E'.w = E.w.alloc (.map #[] 0) ∧ E'.objs = upd E.objs id (some (.map [])) ∧ AvRep E' (.mp id) (.map (some E.w.heap.size)) := by
 have hm : MkOk w0 E E.objs (E.w.alloc (.map #[] 0)) E.D id (some (E.w.heap.size, 0)) Emp :=
  ⟨Dies.refl _, hf, fun g h => h, fun g h => .inl h, (fun g h => by
   rcases h with h | ⟨q, h⟩
   ·cases h
   ·simp only [Option.some.injEq, Prod.mk.injEq] at h
    obtain ⟨rfl, rfl⟩ := h
    exact ⟨.inr (fresh_new hg (Nat.le_refl _)), by simp, fun hd => Nat.lt_irrefl _ (hg.dIn _ hd).1⟩), (fun g q _ h => h), .inl (below_alloc' _ _)⟩
 have hle := mkr_le (ob := .map []) hg hm
 refine ⟨E.mkr E.objs (E.w.alloc (.map #[] 0)) E.D id (.map []) (some (E.w.heap.size, 0)) Emp, hle, mkr_good hg hm ?_, rfl, rfl, .mp (by simp [Env.mkr, upd_same]) ?_⟩
 ·exact ⟨E.w.heap.size, by simp [Env.mkr, upd_same], heap_new _ _⟩
 ·intro es ho
  exact ⟨E.w.heap.size, by simp [Env.mkr, upd_same], rfl⟩
theorem store_map (hg : Good w0 D0 E) {r : Nat} {es es' : List (Sc × Sc)} {x : Value} (hx : AvRep E (.mp r) x) (ho : E.objs r = some (.map es)) :
  ∃ g, x = .map (some g) ∧ E.w.heap[g]? = some (.map (ents 0 es).toArray es.length) ∧ ∃ E', E.Le E' ∧ Good w0 D0 E' ∧ E'.w = { E.w with heap := E.w.heap.setIfInBounds g (.map (ents 0 es').toArray es'.length) } ∧ E'.objs = upd E.objs r (some (.map es')) := by
 obtain ⟨g, hl, hh⟩ := hg.roots r _ ho
 have hlr : live (E.objs r) = true := by rw [ho]; rfl
 cases hx with
 | mp hr h =>
  obtain ⟨g', hl', rfl⟩ := h _ ho
  rw [hl] at hl'
  simp only [Option.some.injEq, Prod.mk.injEq, and_true] at hl'
  subst hl'
  refine ⟨g, rfl, hh, ?_⟩
  have hlt : g < E.w.heap.size := (Array.getElem?_eq_some_iff.1 hh).1
  have hk : UpOk E E.objs { E.w with heap := E.w.heap.setIfInBounds g (.map (ents 0 es').toArray es'.length) } E.D r g (E.S r) := by
   refine ⟨Dies.refl _, hlr, ⟨0, hl⟩, fun q hq => hq, fun q hq => .inl hq, fun q hq => .inr hq, fun q hq => .inl hq, fun q hq => ?_, ?_, by simp, rfl, rfl, rfl⟩
   ·simp only [Array.getElem?_setIfInBounds]
    rw [if_neg (fun e => hq e.symm)]
   ·intro cur2 e2 h2
    rw [hh] at h2
    cases h2
  have hle := up_le (ob := .map es') hg hk ho trivial
  refine ⟨E.upr E.objs _ _ r (.map es') _, hle, up_good hg hk ho trivial ?_, rfl, rfl⟩
  refine ⟨g, hl, ?_⟩
  simp [Env.upr, Array.getElem?_setIfInBounds, hlt]
theorem eff_mkm (hE : SimE N w0 D0 E st a w) {id : Nat} (hf : st.objs id = none) {t : TypeId} {p : Option Operand} {m : FO} (hc : compMkm P t p = some m) {av : AV} {ob : Objs} (he : eff st id m = some (av, ob)) :
  ∃ E' v, E.Le E' ∧ Good w0 D0 E' ∧ E'.objs = ob ∧ (Instr.makeMap t (p.map a.eval)).run P w = .ok v E'.w ∧ AvRep E' av v := by
 have ew := hE.ew
 have eo := hE.eo
 have fin : m = .mkm → (Instr.makeMap t (p.map a.eval)).run P w = .ok (.map (some w.heap.size)) (w.alloc (.map #[] 0)) → ∃ E' v, E.Le E' ∧ Good w0 D0 E' ∧ E'.objs = ob ∧ (Instr.makeMap t (p.map a.eval)).run P w = .ok v E'.w ∧ AvRep E' av v := by
  rintro rfl hrun
  simp only [eff, Option.some.injEq, Prod.mk.injEq] at he
  obtain ⟨rfl, rfl⟩ := he
  obtain ⟨E', le, g, hw, ho, hr⟩ := mk_map hE.good (id := id) (by rw [eo]; exact hf)
  rw [ew] at hw hr
  exact ⟨E', _, le, g, by rw [ho, eo], by rw [hw]; exact hrun, hr⟩
 unfold compMkm at hc
 split at hc
 ·simp only [Option.some.injEq] at hc
  exact fin hc.symm rfl
 ·split at hc
  ·rename_i k n _ _ ht
   simp only [Option.some.injEq] at hc
   refine fin hc.symm ?_
   have hi : ∀ (kk : IntKind) (nn : Int), (asInt (.int kk nn)).run P w = .ok nn w := fun kk nn => by simp [asInt, asIntOf]
   simp [Instr.makeMap, run_under ht, hi, Act.eval]
  ·cases hc
 ·cases hc
theorem eff_mpu (hE : SimE N w0 D0 E st a w) {id : Nat} {t : TypeId} {p q r : Operand} {m : FO} (hc : compMpu P t p q r = some m) {av : AV} {ob : Objs} (he : eff st id m = some (av, ob)) :
  ∃ E', E.Le E' ∧ Good w0 D0 E' ∧ E'.objs = ob ∧ (Instr.mapUpdate t (a.eval p) (a.eval q) (a.eval r)).run P w = .ok () E'.w ∧ av = .undef := by
 have ew := hE.ew
 have eo := hE.eo
 unfold compMpu at hc
 split at hc
 ·rename_i x k v kd z hx hk hv ht
  simp only [Option.some.injEq] at hc; subst hc
  have hgx := get_rep hE hx
  simp only [eff] at he
  split at he
  ·rename_i rr hq
   rw [hq] at hgx
   split at he
   ·rename_i es ho
    split at he
    ·rename_i s1 s2 h1 h2
     split at he
     ·rename_i qq hf
      simp only [Option.some.injEq, Prod.mk.injEq] at he
      obtain ⟨rfl, rfl⟩ := he
      have e1 := scOf_rep hE (get_rep hE hk) h1
      have e2 := scOf_rep hE (get_rep hE hv) h2
      obtain ⟨g, hg, hh, E', le, gd, hw, ho'⟩ := store_map (es' := mput es s1 s2 qq) hE.good hgx (by rw [eo]; exact ho)
      rw [ew] at hh hw
      refine ⟨E', le, gd, by rw [ho', eo], ?_, rfl⟩
      rw [hg, e1, e2, hw]
      exact run_putSc ht hh hf
     ·cases he
    ·cases he
   ·cases he
  ·cases he
 ·cases hc
theorem eff_men (hE : SimE N w0 D0 E st a w) {id : Nat} {t : TypeId} {p q : Operand} {m : FO} (hc : compMen P t p q = some m) {av : AV} {ob : Objs} (he : eff st id m = some (av, ob)) :
  ∃ E' v, E.Le E' ∧ Good w0 D0 E' ∧ E'.objs = ob ∧ (Instr.mapEntry t (a.eval p) (a.eval q)).run P w = .ok v E'.w ∧ AvRep E' av v := by
 have ew := hE.ew
 have eo := hE.eo
 unfold compMen at hc
 split at hc
 ·rename_i x k kd z hx hk ht
  simp only [Option.some.injEq] at hc; subst hc
  have hgx := get_rep hE hx
  simp only [eff] at he
  split at he
  ·rename_i rr hq
   rw [hq] at hgx
   split at he
   ·rename_i es ho
    split at he
    ·rename_i s1 h1
     split at he
     ·rename_i qq hf
      simp only [Option.some.injEq, Prod.mk.injEq] at he
      obtain ⟨rfl, rfl⟩ := he
      have e1 := scOf_rep hE (get_rep hE hk) h1
      obtain ⟨g, hg, hh, E', le, gd, hw, ho'⟩ := store_map (es' := (mentry es s1 z qq).1) hE.good hgx (by rw [eo]; exact ho)
      rw [ew] at hh hw
      refine ⟨E', _, le, gd, by rw [ho', eo], ?_, .tup (.cons (.val0 (rep_sc _)) (.cons (.val0 (.int _ _)) .nil))⟩
      rw [hg, e1, hw]
      exact run_entSc ht hh hf
     ·cases he
    ·cases he
   ·cases he
  ·cases he
 ·cases hc
theorem eff_mes (hE : SimE N w0 D0 E st a w) {id : Nat} {t : TypeId} {p q r : Operand} {m : FO} (hc : compMes p q r = some m) {av : AV} {ob : Objs} (he : eff st id m = some (av, ob)) :
  ∃ E', E.Le E' ∧ Good w0 D0 E' ∧ E'.objs = ob ∧ (Instr.entryStore t (a.eval p) (a.eval q) (a.eval r)).run P w = .ok () E'.w ∧ av = .undef := by
 have ew := hE.ew
 have eo := hE.eo
 unfold compMes at hc
 split at hc
 ·rename_i x s v hx hs hv
  simp only [Option.some.injEq] at hc; subst hc
  have hgx := get_rep hE hx
  simp only [eff] at he
  split at he
  ·rename_i rr hq
   rw [hq] at hgx
   split at he
   ·rename_i es ho
    split at he
    ·rename_i n s2 h1 h2
     split at he
     ·rename_i h0
      split at he
      ·rename_i pr hj
       simp only [Option.some.injEq, Prod.mk.injEq] at he
       obtain ⟨rfl, rfl⟩ := he
       obtain ⟨kk, e1⟩ := asI_rep hE (get_rep hE hs) h1
       have e2 := scOf_rep hE (get_rep hE hv) h2
       obtain ⟨g, hg, hh, E', le, gd, hw, ho'⟩ := store_map (es' := es.set n.toNat (pr.1, s2)) hE.good hgx (by rw [eo]; exact ho)
       rw [ew] at hh hw
       refine ⟨E', le, gd, by rw [ho', eo], ?_, rfl⟩
       have hrun := run_esSc (P := P) (t := t) hh (k := pr.1) (v0 := pr.2) hj s2 kk
       rw [hg, e1, e2, hw]
       rw [show ((n.toNat : Nat) : Int) = n by omega] at hrun
       exact hrun
      ·cases he
     ·cases he
    ·cases he
   ·cases he
  ·cases he
 ·cases hc
end
end Go.Ab
