import Derived.Test.YtpnmhfbiaajaeaaGreatDoorM0
import Derived.Laws.BytesArg
set_option linter.unusedVariables false
set_option linter.unusedSimpArgs false
namespace Go.Ab
open Go.RowKit
section
variable {P : Program} {N : Fr} {w0 : Base} {D0 : BSet} {E : Env} {st : St} {a : Act} {w : World}
def Yld (P : Program) (E : Env) (a : Act) (w : World) (o : Oper) (av : AV) : Prop := ∃ v, (execOp a.eval o).run P w = .ok (.value v) w ∧ AvRep E av v
theorem live_row {r : Nat} {own sz L} (h : E.objs r = some (.row own sz L)) : live (E.objs r) = true := by rw [h]; rfl
theorem row_at (hE : SimE N w0 D0 E st a w) {r : Nat} {own sz L} (h : st.objs r = some (.row own sz L)) {i : Nat} {e : V} (hi : L[i]? = some e) {g o : Nat} (hl : E.loc r = some (g, o)) :
  ∃ ws, Reps w (Dof E (some r)) false e.cells ws Emp ∧ Blk w g (o + i * sz) ws ∧ (∀ c ∈ e.cells, V.one c = true) ∧ e.cells.length = sz := by
 have hr := hE.good.roots r _ (by rw [hE.eo]; exact h)
 simp only [RootRep, hl, hE.ew] at hr
 obtain ⟨vs, hb, hu, hreps⟩ := hr
 obtain ⟨ws, q1, q2, q3⟩ := flat_at hu hreps hi
 refine ⟨ws, Reps.lend (fun g hg => Or.inl hg) q1 (fun _ g hg => Or.inr hg), ?_, hu.one hi, (hu e (List.mem_of_getElem? hi)).1⟩
 obtain ⟨cur, e', h1, h2⟩ := hb
 exact ⟨cur, e', _, h1, fun j u hj => by rw [Nat.add_assoc]; exact h2 _ u (q3 j u hj)⟩
theorem Blk.drop {g o n : Nat} {vs : List Value} (h : Blk w g o vs) : Blk w g (o + n) (vs.drop n) := by
 obtain ⟨cur, e, fz, h1, h2⟩ := h
 exact ⟨cur, e, fz, h1, fun j u hj => by rw [Nat.add_assoc]; exact h2 _ u (by rwa [List.getElem?_drop] at hj)⟩
theorem mul_drop_blk {sz l : Nat} {L : List V} (hu : Uni sz L) : (L.drop l).flatMap V.cells = (L.flatMap V.cells).drop (l * sz) := by
 induction L generalizing l with
 | nil => simp
 | cons x L ih =>
  cases l with
  | zero => simp
  | succ l =>
   have hx := (hu x (by simp)).1
   have h1 : List.drop ((l + 1) * sz) x.cells = [] := List.drop_eq_nil_of_le (by rw [hx, Nat.succ_mul]; omega)
   have h2 : (l + 1) * sz - sz = l * sz := by rw [Nat.succ_mul]; omega
   rw [List.drop_succ_cons, ih (fun z hz => hu z (by simp [hz])), List.flatMap_cons, List.drop_append, hx, h1, h2, List.nil_append]
theorem mul_take_blk {sz l : Nat} {L : List V} (hu : Uni sz L) : (L.take l).flatMap V.cells = (L.flatMap V.cells).take (l * sz) := by
 induction L generalizing l with
 | nil => simp
 | cons x L ih =>
  cases l with
  | zero => simp
  | succ l =>
   have hx := (hu x (by simp)).1
   have h1 : List.take ((l + 1) * sz) x.cells = x.cells := List.take_of_length_le (by rw [hx, Nat.succ_mul]; omega)
   have h2 : (l + 1) * sz - sz = l * sz := by rw [Nat.succ_mul]; omega
   rw [List.take_succ_cons, List.flatMap_cons, ih (fun z hz => hu z (by simp [hz])), List.flatMap_cons, List.take_append, hx, h1, h2]
theorem Uni.drop {sz l : Nat} {L : List V} (h : Uni sz L) : Uni sz (L.drop l) := fun x hx => h x (List.mem_of_mem_drop hx)
theorem Uni.take {sz l : Nat} {L : List V} (h : Uni sz L) : Uni sz (L.take l) := fun x hx => h x (List.mem_of_mem_take hx)
theorem Uni.flat_length {sz : Nat} {L : List V} (h : Uni sz L) : (L.flatMap V.cells).length = L.length * sz := by
 induction L with
 | nil => simp
 | cons x L ih => rw [List.flatMap_cons, List.length_append, ih (fun z hz => h z (by simp [hz])), (h x (by simp)).1, List.length_cons, Nat.succ_mul]; omega
theorem fieldPlace_run {g q : Nat} {f : Field} {m : Nat} (h : sizeT P f.type = some (m + 1)) : (fieldPlace ⟨g, q, none⟩ f).run P w = .ok ⟨g, q + f.offset, none⟩ w := by
 simp [fieldPlace, run_sizeOf' h, addr_add]
theorem ev_asg (hE : SimE N w0 D0 E st a w) {x0 : Operand} {m : MO} (hc : compAsg x0 = some m) {av : AV} (he : ev st m = some av) : AvRep E av (a.eval x0) := by
 have key : ∀ x, compX x0 = some x → m = .mv x → AvRep E av (a.eval x0) := by
  rintro x hx rfl
  simp only [ev, Option.some.injEq] at he; subst he
  exact get_rep hE hx
 unfold compAsg at hc
 split at hc
 ·split at hc
  ·cases hc
  ·obtain ⟨x, hx, rfl⟩ := Option.map_eq_some_iff.1 hc
   exact key x hx rfl
 ·obtain ⟨x, hx, rfl⟩ := Option.map_eq_some_iff.1 hc
  exact key x hx rfl
theorem ev_pick (hE : SimE N w0 D0 E st a w) {c0 a0 b0 : Operand} {m : MO} (hc : compPick c0 a0 b0 = some m) {av : AV} (he : ev st m = some av) : ∃ t, a.eval c0 = .bool t ∧ AvRep E av (if t then a.eval a0 else a.eval b0) := by
 unfold compPick at hc
 split at hc
 ·rename_i c' a' b' hx hy hz
  simp only [Option.some.injEq] at hc; subst hc
  simp only [ev] at he
  split at he
  ·rename_i src t hv
   simp only [Option.some.injEq] at he; subst he
   have hr := (view_rep hE (get_rep hE hx) hv).1
   refine ⟨t, by cases hq : a.eval c0 <;> rw [hq] at hr <;> cases hr; rfl, ?_⟩
   cases t
   ·exact get_rep hE hz
   ·exact get_rep hE hy
  ·cases he
 ·cases hc
theorem ev_nck (hE : SimE N w0 D0 E st a w) {x0 : Operand} {x : X} (hx : compX x0 = some x) {av : AV} (he : ev st (.nck x) = some av) :
  AvRep E av (a.eval x0) ∧ ((∃ b, a.eval x0 = .pointer (some b)) ∨ ∃ f cs, a.eval x0 = .func (.func f) #[] cs) := by
 have eo := hE.eo
 have hg := get_rep hE hx
 simp only [ev] at he
 split at he
 ·rename_i r i f hq
  split at he
  ·rename_i hl
   simp only [Option.some.injEq] at he; subst he
   rw [hq] at hg
   refine ⟨hg, .inl ?_⟩
   cases hg with
   | ptrRow hr h h' =>
    obtain ⟨ob, ho, hnd, hnm⟩ := cel_some hl
    rw [← eo] at ho
    cases ob with
    | row own sz L => obtain ⟨_, g, q, _, hp⟩ := h _ _ _ ho; exact ⟨_, hp⟩
    | box cs => obtain ⟨_, g, _, hp⟩ := h' _ ho; exact ⟨_, hp⟩
    | dead => exact absurd rfl hnd
    | map es => exact absurd rfl (hnm es)
  ·cases he
 ·rename_i f cs hq
  simp only [Option.some.injEq] at he; subst he
  rw [hq] at hg
  refine ⟨hg, .inr ?_⟩
  generalize a.eval x0 = z at hg ⊢
  cases hg with
  | fn h => exact ⟨_, _, rfl⟩
 ·split at he
  ·rename_i src cs hv
   simp only [Option.some.injEq] at he; subst he
   obtain ⟨hr, hs⟩ := view_rep hE hg hv
   refine ⟨by simpa [mk, V.plain] using mk_rep hE hr hs, .inl ?_⟩
   generalize a.eval x0 = z at hr ⊢
   cases hr
   exact ⟨_, rfl⟩
  ·rename_i src f cs hv
   simp only [Option.some.injEq] at he; subst he
   obtain ⟨hr, hs⟩ := view_rep hE hg hv
   refine ⟨by simpa [mk, V.plain] using mk_rep hE hr hs, .inr ?_⟩
   generalize a.eval x0 = z at hr ⊢
   cases hr
   exact ⟨_, _, rfl⟩
  ·cases he
theorem equal_bool {t : TypeId} (ht : P.underlying t = some .bool) (x y : Bool) : (Op.equal t (.bool x) (.bool y)).run P w = .ok (x == y) w := by
 show (Op.equalIn (9999 + 1) t (.bool x) (.bool y)).run P w = _
 unfold Op.equalIn
 simp only [Sem.run_bind, run_under ht, Result.andThen_ok, Sem.run_pure]
theorem equal_nil {t e : TypeId} (ht : P.underlying t = some (.slice e)) (ad : Option Addr) (l c : Nat) : (Op.equal t (.slice ad l c) (.slice none 0 0)).run P w = .ok ad.isNone w := by
 show (Op.equalIn (9999 + 1) t (.slice ad l c) (.slice none 0 0)).run P w = _
 unfold Op.equalIn
 cases ad <;> simp [Sem.run_bind, run_under ht, Result.andThen_ok, Sem.run_pure]
theorem part_cell {t : TypeId} {cs : Array Value} {o : Nat} {u : Value} (ha : aggT P t = some false) (h : cs[o]? = some u) : (part t cs o).run P w = .ok u w := by
 simp [part, run_isAgg' ha, h]
theorem eqf_step {d : Nat} {xs ys : Array Value} {f : Field} {fs : List Field} {u v : Value} {r s : Bool} (hn : (f.name == "_") = false) (ha : (part f.type xs f.offset).run P w = .ok u w) (hb : (part f.type ys f.offset).run P w = .ok v w) (he : (Op.equalIn d f.type u v).run P w = .ok r w) (hr : (Op.eqFields d xs ys fs).run P w = .ok s w) : (Op.eqFields d xs ys (f :: fs)).run P w = .ok (r && s) w := by
 have hn' : f.name ≠ "_" := by simpa using hn
 rw [Op.eqFields]
 simp only [if_pos hn', Sem.run_bind, ha, hb, he, Result.andThen_ok]
 cases r
 ·simp
 ·simpa using hr
theorem eqf_run {d : Nat} {D D' : BSet} {S S' : BSet} {xs ys : Array Value} : ∀ (fs : List Field) (i : Nat) (ks : List Nat) (a b : List V) (la lb : List Value) (r : Bool), flatF P i fs = some ks → Reps w D false a la S → Reps w D' false b lb S' → (∀ (j : Nat) (u : Value), la[j]? = some u → xs[i + j]? = some u) → (∀ (j : Nat) (u : Value), lb[j]? = some u → ys[i + j]? = some u) → eqVs ks a b = some r → (Op.eqFields (d + 1) xs ys fs).run P w = .ok r w
 | [], i, ks, a, b, la, lb, r, hf, ha, hb, _, _, he => by
  simp only [flatF, Option.some.injEq] at hf; subst hf
  cases ha <;> cases hb <;> simp [eqVs] at he
  subst he
  simp [Op.eqFields]
 | f :: fs, i, ks, a, b, la, lb, r, hf, ha, hb, hx, hy, he => by
  simp only [flatF] at hf
  split at hf
  ·rename_i hk
   obtain ⟨hn, hoff⟩ := hk
   have tail : ∀ {l ks' va vb a' b' x y la' lb' s1 s2 s3 s4 r'}, flatF P (i + 1) fs = some l → l = ks' → Reps w D false a' la' s1 → Reps w D' false b' lb' s2 → la = x :: la' → lb = y :: lb' → eqVs ks' a' b' = some r' → (va : V) = va → (vb : V) = vb → (s3 : BSet) = s3 → (s4 : BSet) = s4 → (Op.eqFields (d + 1) xs ys fs).run P w = .ok r' w := by
    intro l ks' va vb a' b' x y la' lb' s1 s2 s3 s4 r' h1 h2 h3 h4 h5 h6 h7 _ _ _ _
    subst h2; subst h5; subst h6
    exact eqf_run fs (i + 1) l a' b' la' lb' r' h1 h3 h4 (fun j u hu => by have := hx (j + 1) u (by simpa using hu); rw [show i + 1 + j = i + (j + 1) by omega]; exact this) (fun j u hu => by have := hy (j + 1) u (by simpa using hu); rw [show i + 1 + j = i + (j + 1) by omega]; exact this) h7
   split at hf
   ·rename_i kk l hu hl
    simp only [Option.some.injEq] at hf; subst hf
    have hag : aggT P f.type = some false := by simp [aggT, hu]
    cases ha with
    | nil => simp [eqVs] at he
    | cons a1 a2 _ _ _ => cases hb with
     | nil => simp [eqVs] at he
     | cons b1 b2 _ _ _ =>
      cases a1 <;> cases b1 <;> simp only [eqVs] at he <;> try (cases he; done)
      rename_i k x k' y
      split at he
      ·rename_i r' hr'
       split at he
       ·rename_i hkk
        subst hkk
        simp only [Option.some.injEq] at he; subst he
        have e1 := hx 0 _ rfl
        have e2 := hy 0 _ rfl
        rw [Nat.add_zero] at e1 e2
        refine eqf_step hn (part_cell hag (by rw [hoff]; exact e1)) (part_cell hag (by rw [hoff]; exact e2)) ?_ (tail hl rfl a2 b2 rfl rfl hr' (rfl : V.bool true = _) (rfl : V.bool true = _) (rfl : Emp = _) (rfl : Emp = _))
        unfold Op.equalIn
        simp only [Sem.run_bind, run_under hu, Result.andThen_ok, if_true, Sem.run_pure]
        congr 1
       ·cases he
      ·cases he
   ·rename_i l hu hl
    simp only [Option.some.injEq] at hf; subst hf
    have hag : aggT P f.type = some false := by simp [aggT, hu]
    cases ha with
    | nil => simp [eqVs] at he
    | cons a1 a2 _ _ _ => cases hb with
     | nil => simp [eqVs] at he
     | cons b1 b2 _ _ _ =>
      cases a1 <;> cases b1 <;> simp only [eqVs] at he <;> try (cases he; done)
      rename_i x y
      split at he
      ·rename_i r' hr'
       simp only [Option.some.injEq] at he; subst he
       have e1 := hx 0 _ rfl
       have e2 := hy 0 _ rfl
       rw [Nat.add_zero] at e1 e2
       refine eqf_step hn (part_cell hag (by rw [hoff]; exact e1)) (part_cell hag (by rw [hoff]; exact e2)) ?_ (tail hl rfl a2 b2 rfl rfl hr' (rfl : V.bool true = _) (rfl : V.bool true = _) (rfl : Emp = _) (rfl : Emp = _))
       unfold Op.equalIn
       simp only [Sem.run_bind, run_under hu, Result.andThen_ok, Sem.run_pure]
      ·cases he
   ·rename_i l hu hl
    simp only [Option.some.injEq] at hf; subst hf
    have hag : aggT P f.type = some false := by simp [aggT, hu]
    cases ha with
    | nil => simp [eqVs] at he
    | cons a1 a2 _ _ _ => cases hb with
     | nil => simp [eqVs] at he
     | cons b1 b2 _ _ _ =>
      cases a1 <;> cases b1 <;> simp only [eqVs] at he <;> try (cases he; done)
      rename_i x y
      split at he
      ·rename_i r' hr'
       simp only [Option.some.injEq] at he; subst he
       have e1 := hx 0 _ rfl
       have e2 := hy 0 _ rfl
       rw [Nat.add_zero] at e1 e2
       refine eqf_step hn (part_cell hag (by rw [hoff]; exact e1)) (part_cell hag (by rw [hoff]; exact e2)) ?_ (tail hl rfl a2 b2 rfl rfl hr' (rfl : V.bool true = _) (rfl : V.bool true = _) (rfl : Emp = _) (rfl : Emp = _))
       unfold Op.equalIn
       simp only [Sem.run_bind, run_under hu, Result.andThen_ok, Sem.run_pure]
       congr 1
       rw [beq_toListBytes, ByteArray.toList_eq, ByteArray.toList_eq]
       by_cases hxy : x = y <;> simp [hxy]
      ·cases he
   ·cases hf
  ·cases hf
theorem plainL_rep : ∀ {cs : List AV} {xs : List Value} {vs : List V}, AvReps E cs xs → plainL cs = some vs → Reps E.w E.D false vs xs Emp
 | [], _, vs, .nil, h => by
  simp only [plainL, Option.some.injEq] at h; subst h; exact .nil
 | c :: cs, _, vs, .cons h1 h2, h => by
  cases c with
  | val src v =>
   cases src with
   | none =>
    simp only [plainL] at h
    split at h
    ·rename_i vs' hv
     simp only [Option.some.injEq] at h; subst h
     cases h1 with
     | val0 h1 => exact .cons (S1 := Emp) (S2 := Emp) h1 (plainL_rep h2 hv) (fun _ h => h.elim) (fun _ h => h) (fun _ h => h)
    ·cases h
   | some r => simp [plainL] at h
  | _ => simp [plainL] at h
theorem aggOf_rep (hE : SimE N w0 D0 E st a w) {c : AV} {x : Value} (h : AvRep E c x) {vs : List V} (hv : aggOf st c = some vs) : ∃ D xs, x = .agg xs.toArray ∧ Reps w D false vs xs Emp := by
 have ew := hE.ew
 unfold aggOf at hv
 split at hv
 ·cases h with
  | agg h1 h => exact ⟨_, _, rfl, by rw [← ew]; exact plainL_rep h hv⟩
 ·split at hv
  ·rename_i src cs hvw
   simp only [Option.some.injEq] at hv; subst hv
   obtain ⟨hr, _⟩ := view_rep hE h hvw
   cases hr with
   | agg h1 hr => exact ⟨_, _, rfl, hr⟩
  ·cases hv
theorem equal_flat {t : TypeId} {ks : List Nat} (hf : flatT P t = some ks) {D D' : BSet} {u v : List V} {xs ys : List Value} (hx : Reps w D false u xs Emp) (hy : Reps w D' false v ys Emp) {r : Bool} (he : eqVs ks u v = some r) : P.eqGuardType P.depth t = false ∧ (Op.equal t (.agg xs.toArray) (.agg ys.toArray)).run P w = .ok r w := by
 unfold flatT at hf
 split at hf
 ·rename_i hk
  obtain ⟨h1, h2⟩ := hk
  split at hf
  ·rename_i fs hu
   refine ⟨h2, ?_⟩
   have hfo : P.fieldsOf t = fs := by simp [Program.fieldsOf, hu]
   show (Op.equalIn (9999 + 1) t (.agg xs.toArray) (.agg ys.toArray)).run P w = _
   rw [run_equalIn_struct (P := P) w 9999 t _ _ (by rw [hfo]; exact hu) h1, hfo]
   exact eqf_run fs.toList 0 ks u v xs ys r hf hx hy (fun j u hu => by simpa using hu) (fun j u hu => by simpa using hu) he
  ·cases hf
 ·cases hf
theorem ev_bin (hE : SimE N w0 D0 E st a w) {op : BinOp} {t : TypeId} {p q : Operand} {m : MO} (hc : compBin P op t p q = some m) {av : AV} (he : ev st m = some av) :
  ∃ z, (do eqGuard op t p q (a.eval p) (a.eval q); binOp op t (a.eval p) (a.eval q)).run P w = .ok z w ∧ AvRep E av z := by
 have ew := hE.ew
 have key : ∀ x y, compX p = some x → compX q = some y → m = .bin op x y → ∃ z, (do eqGuard op t p q (a.eval p) (a.eval q); binOp op t (a.eval p) (a.eval q)).run P w = .ok z w ∧ AvRep E av z := by
  rintro x y hx hy rfl
  simp only [ev] at he
  split at he
  ·rename_i s1 u s2 v h1 h2
   obtain ⟨r, hr, rfl⟩ := Option.map_eq_some_iff.1 he
   obtain ⟨z, hz, hrep⟩ := binV_run (P := P) (t := t) (view_rep hE (get_rep hE hx) h1).1 (view_rep hE (get_rep hE hy) h2).1 hr p q
   exact ⟨z, hz, .val0 (by rw [ew]; exact hrep _)⟩
  ·cases he
 have keyb : ∀ x y neg, compX p = some x → compX q = some y → m = .bnb neg x y → P.underlying t = some .bool → op = (if neg = true then .neq else .eql) → ∃ z, (do eqGuard op t p q (a.eval p) (a.eval q); binOp op t (a.eval p) (a.eval q)).run P w = .ok z w ∧ AvRep E av z := by
  rintro x y neg hx hy rfl ht rfl
  simp only [ev] at he
  split at he
  ·rename_i s1 u s2 v h1 h2
   simp only [Option.some.injEq] at he; subst he
   have r1 := (view_rep hE (get_rep hE hx) h1).1
   have r2 := (view_rep hE (get_rep hE hy) h2).1
   have e1 : a.eval p = .bool u := by generalize a.eval p = z at r1; cases r1; rfl
   have e2 : a.eval q = .bool v := by generalize a.eval q = z at r2; cases r2; rfl
   rw [e1, e2]
   refine ⟨_, ?_, .val0 (.bool _)⟩
   cases neg
   ·simp [eqGuard, binOp, equal_bool ht]
   ·simp [eqGuard, binOp, equal_bool ht, bne]
  ·cases he
 unfold compBin at hc
 split at hc
 ·rename_i x y hx hy
  split at hc
  ·rename_i ht
   split at hc
   ·simp only [Option.some.injEq] at hc
    exact keyb x y false hx hy hc.symm ht rfl
   ·simp only [Option.some.injEq] at hc
    exact keyb x y true hx hy hc.symm ht rfl
   ·cases hc
  ·simp only [Option.some.injEq] at hc
   exact key x y hx hy hc.symm
  ·simp only [Option.some.injEq] at hc
   exact key x y hx hy hc.symm
  ·rename_i ty ht
   split at hc
   ·have keyn : ∀ neg, m = .isn neg x → op = (if neg = true then .neq else .eql) → ∃ z, (do eqGuard op t p (.const (.slice none 0 0)) (a.eval p) (a.eval (.const (.slice none 0 0))); binOp op t (a.eval p) (a.eval (.const (.slice none 0 0)))).run P w = .ok z w ∧ AvRep E av z := by
     rintro neg rfl rfl
     have hev : a.eval (.const (.slice none 0 0)) = .slice none 0 0 := rfl
     have hg := get_rep hE hx
     rw [hev]
     have main : ∀ ad l c, a.eval p = .slice ad l c → AvRep E av (.bool (ad.isNone != neg)) → ∃ z, (do eqGuard (if neg = true then BinOp.neq else .eql) t p (.const (.slice none 0 0)) (a.eval p) (.slice none 0 0); binOp (if neg = true then BinOp.neq else .eql) t (a.eval p) (.slice none 0 0)).run P w = .ok z w ∧ AvRep E av z := by
      intro ad l c hp hr
      rw [hp]
      refine ⟨_, ?_, hr⟩
      cases neg
      ·simp [eqGuard, binOp, equal_nil ht]
      ·simp [eqGuard, binOp, equal_nil ht]
     have rv : ∀ {D : BSet} {sz : Nat} {L : List V} {z : Value} {S : BSet}, Rep w D false (.sl sz L) z S → ∃ ad l c, z = .slice ad l c ∧ (¬ L.length = 0 → ad.isNone = false) := by
      intro D sz L z S h
      cases h with
      | nil => exact ⟨_, _, _, rfl, fun h => absurd rfl h⟩
      | slro => exact ⟨_, _, _, rfl, fun _ => rfl⟩
     simp only [ev] at he
     split at he
     ·rename_i r off len hgx
      rw [hgx] at hg
      split at he
      ·rename_i own sz L hobj
       simp only [Option.some.injEq] at he; subst he
       generalize hz : a.eval p = z at hg
       cases hg with
       | sl hr h =>
        obtain ⟨h1, h2⟩ := h _ _ _ (by rw [hE.eo]; exact hobj)
        unfold SlAt at h2
        split at h2
        ·obtain ⟨⟨ad, rfl⟩, rfl⟩ := h2
         rw [← hz]
         exact main _ _ _ hz (by rw [if_pos rfl]; exact .ub)
        ·obtain ⟨ad, c, rfl, k1, k2, k3, k4, _, _⟩ := h2
         rw [← hz]
         refine main _ _ _ hz ?_
         split
         ·exact .ub
         ·rename_i hne
          have := k3 (by omega)
          subst this
          simp only [Option.isNone_some, Bool.false_bne]
          exact .val0 (.bool _)
      ·cases he
     ·split at he
      ·rename_i s1 sz L h1
       simp only [Option.some.injEq] at he; subst he
       obtain ⟨hr, _⟩ := view_rep hE hg h1
       obtain ⟨ad, l, c, e1, e2⟩ := rv hr
       refine main _ _ _ e1 ?_
       split
       ·exact .ub
       ·rename_i hne
        rw [e2 hne]
        simp only [Bool.false_bne]
        exact .val0 (.bool _)
      ·cases he
    split at hc
    ·simp only [Option.some.injEq] at hc
     exact keyn false hc.symm rfl
    ·simp only [Option.some.injEq] at hc
     exact keyn true hc.symm rfl
    ·cases hc
   ·cases hc
  ·split at hc
   ·rename_i ks hks
    have keys : ∀ neg, m = .eqs neg ks x y → op = (if neg = true then .neq else .eql) → ∃ z, (do eqGuard op t p q (a.eval p) (a.eval q); binOp op t (a.eval p) (a.eval q)).run P w = .ok z w ∧ AvRep E av z := by
     rintro neg rfl rfl
     simp only [ev] at he
     split at he
     ·rename_i u v h1 h2
      split at he
      ·rename_i r hr
       simp only [Option.some.injEq] at he; subst he
       obtain ⟨D1, xs, e1, r1⟩ := aggOf_rep hE (get_rep hE hx) h1
       obtain ⟨D2, ys, e2, r2⟩ := aggOf_rep hE (get_rep hE hy) h2
       obtain ⟨g1, g2⟩ := equal_flat (P := P) hks r1 r2 hr
       rw [e1, e2]
       refine ⟨_, ?_, .val0 (.bool _)⟩
       cases neg
       ·simp [eqGuard, binOp, g1, g2]
       ·simp [eqGuard, binOp, g1, g2]
      ·cases he
     ·cases he
    split at hc
    ·simp only [Option.some.injEq] at hc
     exact keys false hc.symm rfl
    ·simp only [Option.some.injEq] at hc
     exact keys true hc.symm rfl
    ·cases hc
   ·cases hc
  ·cases hc
 ·cases hc
theorem ev_un (hE : SimE N w0 D0 E st a w) {u : UnOp} {p : Operand} {m : MO} (hc : compUn u p = some m) {av : AV} (he : ev st m = some av) : ∃ z, (Op.unary u (a.eval p)).run P w = .ok z w ∧ AvRep E av z := by
 unfold compUn at hc
 split at hc
 ·obtain ⟨x, hx, rfl⟩ := Option.map_eq_some_iff.1 hc
  simp only [ev] at he
  split at he
  ·rename_i s1 b h1
   simp only [Option.some.injEq] at he; subst he
   have r1 := (view_rep hE (get_rep hE hx) h1).1
   generalize a.eval p = z at r1
   cases r1
   exact ⟨_, by simp [Op.unary], .val0 (.bool _)⟩
  ·cases he
 ·obtain ⟨x, hx, rfl⟩ := Option.map_eq_some_iff.1 hc
  simp only [ev] at he
  split at he
  ·rename_i s1 k n h1
   simp only [Option.some.injEq] at he; subst he
   have r1 := (view_rep hE (get_rep hE hx) h1).1
   generalize a.eval p = z at r1
   cases r1
   exact ⟨_, by simp [Op.unary, Op.intArith], .val0 (.int _ _)⟩
  ·cases he
 ·cases hc
theorem part_cells (hg : Good w0 D0 E) {r off len sz : Nat} {own : Bool} {L : List V} {x : Value} (h : AvRep E (.sl r off len) x) (ho : E.objs r = some (.row own sz L)) :
  ∃ ad c vs, x = .slice ad len c ∧ len ≤ c ∧ c ≤ maxLen ∧ vs.length = len * sz ∧ Reps E.w E.D own (((L.drop off).take len).flatMap V.cells) vs (E.S r) ∧ Uni sz ((L.drop off).take len) ∧ off + len ≤ L.length ∧
   ((c = 0 ∧ vs = []) ∨ ∃ g o cur e, E.loc r = some (g, o) ∧ ad = some ⟨g, o + off * sz, none⟩ ∧ E.w.heap[g]? = some (.cells cur e (0, 0)) ∧ o + (off + c) * sz ≤ cur.size ∧ ∀ (j : Nat) (u : Value), vs[j]? = some u → cur[o + off * sz + j]? = some u) := by
 cases h with
 | sl hr h =>
  obtain ⟨hle, hat⟩ := h _ _ _ ho
  have hroot := hg.roots r _ ho
  unfold SlAt at hat
  split at hat
  ·rename_i hl
   obtain ⟨⟨ad, rfl⟩, rfl⟩ := hat
   exact ⟨ad, 0, [], rfl, Nat.le_refl _, by simp [maxLen], by simp, by simpa using Reps.nil, by intro x hx; simp at hx, hle, .inl ⟨rfl, rfl⟩⟩
  ·rename_i g o hl
   obtain ⟨ad, c, rfl, hlc, hm, h1, h2, htt, cur, e, hh, hs⟩ := hat
   simp only [RootRep, hl] at hroot
   obtain ⟨vs, hb, hu, hrr⟩ := hroot
   by_cases hc : c = 0
   ·have hl0 : len = 0 := by omega
    subst hl0
    exact ⟨ad, c, [], rfl, hlc, hm, by simp, by simpa using Reps.nil, by intro x hx; simp at hx, hle, .inl ⟨hc, rfl⟩⟩
   ·obtain rfl := h1 hc
    have hlen : ((L.drop off).take len).length = len := by simp; omega
    have hr' : Reps E.w E.D own (((L.drop off).take len).flatMap V.cells) ((vs.drop (off * sz)).take (len * sz)) (E.S r) := by
     rw [mul_take_blk hu.drop, mul_drop_blk hu]; exact (hrr.drop _).take _
    refine ⟨_, c, (vs.drop (off * sz)).take (len * sz), rfl, hlc, hm, ?_, hr', hu.drop.take, hle, .inr ⟨g, o, cur, e, hl, rfl, hh, hs hc, ?_⟩⟩
    ·rw [← hr'.length, hu.drop.take.flat_length, hlen]
    ·obtain ⟨cur', e', b1, b2⟩ := hb
     rw [b1] at hh
     simp only [Option.some.injEq, Obj.cells.injEq, and_true] at hh
     obtain ⟨rfl, rfl⟩ := hh
     intro j u hj
     rw [List.getElem?_take] at hj
     split at hj
     ·rw [List.getElem?_drop] at hj
      rw [Nat.add_assoc]
      exact b2 _ u hj
     ·cases hj
theorem bytesOf_map : ∀ {L : List V} {b : List UInt8}, bytesOf L = some b → ∃ xs : List Int, L = xs.map (V.int .u8) ∧ b = xs.map fun n => UInt8.ofNat n.toNat
 | [], b, h => by simp only [bytesOf, Option.some.injEq] at h; subst h; exact ⟨[], rfl, rfl⟩
 | c :: l, b, h => by
  unfold bytesOf at h
  split at h
  ·rename_i h1; cases h1
  ·rename_i n l' h1
   simp only [List.cons.injEq] at h1
   obtain ⟨rfl, rfl⟩ := h1
   split at h
   ·rename_i b' h2
    simp only [Option.some.injEq] at h; subst h
    obtain ⟨xs, rfl, rfl⟩ := bytesOf_map h2
    exact ⟨n :: xs, rfl, rfl⟩
   ·cases h
  ·cases h
theorem reps_ints {D : BSet} {o : Bool} : ∀ {xs : List Int} {vs : List Value} {S : BSet}, Reps w D o (xs.map (V.int .u8)) vs S → vs = xs.map (Value.int .u8)
 | [], _, _, .nil => rfl
 | x :: xs, _, _, .cons h hs _ _ _ => by
  cases h
  rw [reps_ints hs]; rfl
theorem flat_ints (xs : List Int) : (xs.map (V.int .u8)).flatMap V.cells = xs.map (V.int .u8) := by
 induction xs with
 | nil => rfl
 | cons x xs ih => simp only [List.map_cons, List.flatMap_cons, ih]; rfl
theorem bts_run {src dst e : TypeId} (hs : P.underlying src = some (.slice e)) (he : P.underlying e = some (.int .u8)) (hd : P.underlying dst = some .string) {L : List V} {b : List UInt8} (hb : bytesOf L = some b) {D : BSet} {o : Bool} {S : BSet} {vs : List Value} (hr : Reps w D o (L.flatMap V.cells) vs S)
  {ad : Option Addr} {n c : Nat} (hn : n = L.length) (hat : n = 0 ∧ (ad = none ∨ ∃ a, ad = some a) ∨ ∃ g q, ad = some ⟨g, q, none⟩ ∧ ∀ (j : Nat) (u : Value), vs[j]? = some u → w.cell? ⟨g, q + j, none⟩ = some u) :
  (convert src dst (.slice ad n c)).run P w = .ok (.string ⟨b.toArray⟩) w := by
 obtain ⟨xs, rfl, rfl⟩ := bytesOf_map hb
 rw [flat_ints] at hr
 obtain rfl := reps_ints hr
 rw [List.length_map] at hn
 subst hn
 rcases hat with ⟨h0, h | ⟨a, h⟩⟩ | ⟨g, q, rfl, hc⟩
 ·subst h
  have hx : xs = [] := List.eq_nil_of_length_eq_zero h0
  subst hx
  rw [run_convert_bytes_nil w src e hs he _ c dst hd]
  rfl
 ·subst h
  have hx : xs = [] := List.eq_nil_of_length_eq_zero h0
  subst hx
  rw [run_convert_bytes_string w src dst e _ _ c hs he hd, run_bytesToString w a _ c [] (by simp [loadCells, loadCellsFrom])]
  rfl
 ·have := run_convert_bytes_arg (P := P) w src e hs he g q xs.length c xs rfl (fun i hi => by
   refine hc i _ ?_
   rw [List.getElem?_map, List.getElem?_eq_getElem hi]
   simp [List.getD, List.getElem?_eq_getElem hi]) dst hd
  rw [this]
  rfl
theorem ev_conv (hE : SimE N w0 D0 E st a w) {src dst : TypeId} {p : Operand} {m : MO} (hc : compConv P src dst p = some m) {av : AV} (he : ev st m = some av) : ∃ z, (convert src dst (a.eval p)).run P w = .ok z w ∧ AvRep E av z := by
 unfold compConv at hc
 split at hc
 ·rename_i x k0 k hx hs hd
  simp only [Option.some.injEq] at hc; subst hc
  simp only [ev] at he
  split at he
  ·rename_i s1 k1 n h1
   simp only [Option.some.injEq] at he; subst he
   have r1 := (view_rep hE (get_rep hE hx) h1).1
   generalize a.eval p = z at r1
   cases r1
   exact ⟨_, by simp [convert, run_under hs, run_under hd, Conv.intToInt], .val0 (.int _ _)⟩
  ·cases he
 ·rename_i x hx hs hd
  simp only [Option.some.injEq] at hc; subst hc
  simp only [ev] at he
  split at he
  ·rename_i s1 b h1
   simp only [Option.some.injEq] at he; subst he
   have r1 := (view_rep hE (get_rep hE hx) h1).1
   generalize a.eval p = z at r1
   cases r1
   exact ⟨_, by simp [convert, run_under hs, run_under hd], .val0 (.str _)⟩
  ·cases he
 ·rename_i x e hx hs hd
  split at hc
  ·rename_i he'
   simp only [Option.some.injEq] at hc; subst hc
   have hg := get_rep hE hx
   have ew := hE.ew
   have eo := hE.eo
   simp only [ev] at he
   split at he
   ·rename_i r off len hq
    rw [hq] at hg
    split at he
    ·rename_i own sz L ho
     split at he
     ·rename_i hsz
      subst hsz
      split at he
      ·rename_i b hb
       simp only [Option.some.injEq] at he; subst he
       obtain ⟨ad, c, vs, hx2, hlc, hm, hvl, hrv, hu, hle, hpl⟩ := part_cells hE.good hg (by rw [eo]; exact ho)
       rw [hx2]
       rw [ew] at hrv hpl
       refine ⟨_, bts_run (P := P) hs he' hd hb hrv (by simp; omega) ?_, .val0 (.str _)⟩
       rcases hpl with ⟨rfl, rfl⟩ | ⟨g, o, cur, e', hl, rfl, hh, hs', hcells⟩
       ·left
        refine ⟨by omega, ?_⟩
        cases ad with
        | none => exact .inl rfl
        | some a => exact .inr ⟨a, rfl⟩
       ·right
        exact ⟨g, _, rfl, fun j u hj => by
         have h9 := hcells j u hj
         simp [World.cell?, hh]
         simpa using h9⟩
      ·cases he
     ·cases he
    ·cases he
   ·split at he
    ·rename_i s1 sz L h1
     split at he
     ·rename_i hsz
      subst hsz
      split at he
      ·rename_i b hb
       simp only [Option.some.injEq] at he; subst he
       have r1 := (view_rep hE hg h1).1
       generalize a.eval p = z at r1
       cases r1 with
       | nil =>
        refine ⟨_, bts_run (P := P) hs he' hd hb (D := E.D) (o := false) (S := Emp) (vs := []) (by simpa using Reps.nil) rfl ?_, .val0 (.str _)⟩
        left
        refine ⟨rfl, ?_⟩
        rename_i ad
        cases ad with
        | none => exact .inl rfl
        | some a => exact .inr ⟨a, rfl⟩
       | slro hD hbk hu hr hc hm =>
        refine ⟨_, bts_run (P := P) hs he' hd hb hr rfl (.inr ⟨_, _, rfl, fun j u hj => blk_cell hbk hj⟩), .val0 (.str _)⟩
      ·cases he
     ·cases he
    ·cases he
  ·cases hc
 ·cases hc
theorem ev_fad (hE : SimE N w0 D0 E st a w) {s : TypeId} {p : Operand} {f : Nat} {m : MO} (hc : compFad P s p f = some m) {av : AV} (he : ev st m = some av) : ∃ z, (Instr.fieldAt s (a.eval p) f).run P w = .ok z w ∧ AvRep E av z := by
 have eo := hE.eo
 unfold compFad at hc
 split at hc
 ·rename_i x fs hx hs
  split at hc
  ·rename_i fl hf
   split at hc
   ·rename_i n hn
    simp only [Option.some.injEq] at hc; subst hc
    have hg := get_rep hE hx
    have run : ∀ g q, a.eval p = .pointer (some ⟨g, q, none⟩) → (Instr.fieldAt s (a.eval p) f).run P w = .ok (.pointer (some ⟨g, q + fl.offset, none⟩)) w := by
     intro g q hq
     simp [Instr.fieldAt, run_under hs, hf, hq, Instr.sureAddr, fieldPlace_run hn]
    simp only [ev] at he
    split at he
    ·rename_i r i g hq
     split at he
     ·rename_i hl
      simp only [Option.some.injEq] at he; subst he
      rw [hq] at hg
      generalize hz : a.eval p = z at hg
      rw [hz] at run
      cases hg with
      | ptrRow hr h h' =>
       obtain ⟨ob, ho, hnd, hnm⟩ := cel_some hl
       rw [← eo] at ho
       cases ob with
       | row own sz L =>
        obtain ⟨hi, gg, q, hlo, rfl⟩ := h _ _ _ ho
        refine ⟨_, run _ _ rfl, .ptrRow hr ?_ ?_⟩
        ·intro own' sz' L' ho'
         rw [ho] at ho'
         simp only [Option.some.injEq, Root.row.injEq] at ho'
         obtain ⟨rfl, rfl, rfl⟩ := ho'
         exact ⟨hi, gg, q, hlo, by simp only [Nat.add_assoc]⟩
        ·intro cs ho'
         rw [ho] at ho'
         cases ho'
       | box cs =>
        obtain ⟨hi, gg, hlo, rfl⟩ := h' _ ho
        refine ⟨_, run _ _ rfl, .ptrRow hr ?_ ?_⟩
        ·intro own' sz' L' ho'
         rw [ho] at ho'
         cases ho'
        ·intro cs' ho'
         exact ⟨hi, gg, hlo, rfl⟩
       | dead => exact absurd rfl hnd
       | map es => exact absurd rfl (hnm es)
     ·cases he
    ·split at he
     ·rename_i src cs hv
      simp only [Option.some.injEq] at he; subst he
      obtain ⟨hr, hsrc⟩ := view_rep hE hg hv
      generalize hz : a.eval p = z at hr
      rw [hz] at run
      cases hr with
      | ptr hD hb h1 h =>
       refine ⟨_, run _ _ rfl, ?_⟩
       have := mk_rep hE (src := src) (Rep.ptr (S := Emp) hD hb.drop (fun c hc => h1 c (List.mem_of_mem_drop hc)) (h.drop fl.offset)) hsrc
       simpa [mk, V.plain] using this
     ·cases he
   ·cases hc
  ·cases hc
 ·cases hc
theorem part_one {t : TypeId} {cs : Array Value} {o : Nat} {u : Value} (ha : aggT P t = some false) (h : cs[o]? = some u) : (part t cs o).run P w = .ok u w := by
 simp [part, run_isAgg' ha, h]
theorem part_agg {t : TypeId} {cs : Array Value} {o n : Nat} (ha : aggT P t = some true) (hn : sizeT P t = some n) : (part t cs o).run P w = .ok (.agg (cs.extract o (o + n))) w := by
 simp [part, run_isAgg' ha, run_sizeOf' hn]
theorem extract_list (vs : List Value) (o n : Nat) : vs.toArray.extract o (o + n) = ((vs.drop o).take n).toArray := by
 simp [List.extract_toArray, List.extract]
theorem part_run {D : BSet} {o : Bool} {S : BSet} {t f n : Nat} {ag : Bool} {cs : List V} {vs : List Value} {v : V} (hr : Reps w D o cs vs S) (h1 : ∀ c ∈ cs, V.one c = true)
  (hl : ldV cs f n ag = some v) (ha : aggT P t = some ag) (hn : sizeT P t = some n) : ∃ z, (part t vs.toArray f).run P w = .ok z w ∧ Rep w D o v z S := by
 unfold ldV at hl
 cases ag with
 | true =>
  simp only [if_true] at hl
  split at hl
  ·simp only [Option.some.injEq] at hl; subst hl
   refine ⟨_, part_agg ha hn, ?_⟩
   rw [extract_list]
   exact .agg (fun c hc => h1 c (List.mem_of_mem_drop (List.mem_of_mem_take hc))) ((hr.drop f).take n)
  ·cases hl
 | false =>
  simp only [Bool.false_eq_true, if_false] at hl
  obtain ⟨y, hy, hrep⟩ := hr.get hl
  exact ⟨y, part_one ha (by simpa using hy), hrep⟩
theorem ev_fld (hE : SimE N w0 D0 E st a w) {s : TypeId} {p : Operand} {f : Nat} {m : MO} (hc : compFld P s p f = some m) {av : AV} (he : ev st m = some av) : ∃ z, (Instr.field s (a.eval p) f).run P w = .ok z w ∧ AvRep E av z := by
 unfold compFld at hc
 split at hc
 ·rename_i x fs hx hs
  split at hc
  ·rename_i fl hf
   split at hc
   ·rename_i n ag hn ha
    simp only [Option.some.injEq] at hc; subst hc
    have hg := get_rep hE hx
    simp only [ev] at he
    split at he
    ·rename_i cs hq
     rw [hq] at hg
     generalize hz : a.eval p = z at hg
     cases hg with
     | agg k1 h =>
      rename_i vs
      split at he
      ·rename_i hag
       subst hag
       split at he
       ·simp only [Option.some.injEq] at he; subst he
        refine ⟨_, by simp only [Instr.field, Sem.run_bind, run_under hs, Result.andThen_ok, hf, asAgg, Sem.run_pure]; exact part_agg ha hn, ?_⟩
        rw [extract_list]
        exact .agg (fun v hv => k1 v (List.mem_of_mem_drop (List.mem_of_mem_take hv))) ((h.drop _).take _)
       ·cases he
      ·rename_i hag
       have hag' : ag = false := by simpa using hag
       subst hag'
       obtain ⟨y, hy, hrep⟩ := h.get he
       exact ⟨y, by simp only [Instr.field, Sem.run_bind, run_under hs, Result.andThen_ok, hf, asAgg, Sem.run_pure]; exact part_one ha (by simpa using hy), hrep⟩
    ·split at he
     ·rename_i src cs hv
      obtain ⟨v, hl, rfl⟩ := Option.map_eq_some_iff.1 he
      obtain ⟨hr, hsrc⟩ := view_rep hE hg hv
      generalize hz : a.eval p = z at hr
      cases hr with
      | agg h1 h =>
       obtain ⟨z, hz, hrep⟩ := part_run (P := P) h h1 hl ha hn
       exact ⟨z, by simp only [Instr.field, Sem.run_bind, run_under hs, Result.andThen_ok, hf, asAgg, Sem.run_pure]; exact hz, mk_rep hE hrep hsrc⟩
     ·cases he
   ·cases hc
  ·cases hc
 ·cases hc
theorem ev_iad (hE : SimE N w0 D0 E st a w) {t : TypeId} {p q : Operand} {m : MO} (hc : compIad P t p q = some m) {av : AV} (he : ev st m = some av) : ∃ z, (Instr.indexAt t (a.eval p) (a.eval q)).run P w = .ok z w ∧ AvRep E av z := by
 have eo := hE.eo
 have ew := hE.ew
 unfold compIad at hc
 split at hc
 ·rename_i x i e hx hi ht
  split at hc
  ·rename_i sz hsz
   simp only [Option.some.injEq] at hc; subst hc
   have hg := get_rep hE hx
   simp only [ev] at he
   split at he
   ·cases he
   ·rename_i n hn
    obtain ⟨k, hk⟩ := asI_rep hE (get_rep hE hi) hn
    split at he
    ·rename_i h0
     have run : ∀ g o len c, a.eval p = .slice (some ⟨g, o, none⟩) len c → n.toNat < len → (Instr.indexAt t (a.eval p) (a.eval q)).run P w = .ok (.pointer (some ⟨g, o + n.toNat * sz, none⟩)) w := by
      intro g o len c hp hlt
      have h2 : n < (len : Int) := by omega
      simp [Instr.indexAt, hp, hk, asIntOf, run_under ht, h0, h2, run_sizeOf' hsz, addr_add]
     split at he
     ·rename_i r off len hq
      split at he
      ·rename_i own sz' L ho
       split at he
       ·rename_i hlt
        obtain ⟨rfl, hlt⟩ := hlt
        simp only [Option.some.injEq] at he; subst he
        rw [hq] at hg
        generalize hz : a.eval p = z at hg
        rw [hz] at run
        cases hg with
        | sl hr h =>
         obtain ⟨hle, hat⟩ := h _ _ _ (by rw [eo]; exact ho)
         unfold SlAt at hat
         split at hat
         ·obtain ⟨_, hl0⟩ := hat
          omega
         ·rename_i g o hlo
          obtain ⟨ad, c, rfl, hl, hm, h1, h2, htt, cur, e', hh, hs⟩ := hat
          have hc0 : c ≠ 0 := by omega
          obtain rfl := h1 hc0
          refine ⟨_, run _ _ _ _ rfl hlt, .ptrRow hr ?_ ?_⟩
          ·intro own' sz'' L' ho'
           rw [eo, ho] at ho'
           simp only [Option.some.injEq, Root.row.injEq] at ho'
           obtain ⟨rfl, rfl, rfl⟩ := ho'
           refine ⟨by omega, g, o, hlo, ?_⟩
           rw [Nat.add_mul, Nat.add_zero, Nat.add_assoc]
          ·intro cs ho'
           rw [eo, ho] at ho'
           cases ho'
       ·cases he
      ·cases he
     ·split at he
      ·rename_i src sz' L hv
       split at he
       ·rename_i e0 hel
        split at he
        ·rename_i hsz'
         subst hsz'
         simp only [Option.some.injEq] at he; subst he
         obtain ⟨hr, hsrc⟩ := view_rep hE hg hv
         have hlt : n.toNat < L.length := by
          rcases Nat.lt_or_ge n.toNat L.length with h | h
          ·exact h
          ·rw [List.getElem?_eq_none h] at hel; cases hel
         generalize hz : a.eval p = z at hr
         rw [hz] at run
         cases hr with
         | nil => simp at hel
         | slro hD hb hu h hcc hm =>
          obtain ⟨ws, q1, q2, q3⟩ := flat_at hu h hel
          rename_i g off c2 vs2
          refine ⟨_, run _ _ _ _ rfl hlt, ?_⟩
          have hb' : Blk w g (off + n.toNat * sz') ws := by
           obtain ⟨cur, e'', fz, b1, b2⟩ := hb
           exact ⟨cur, e'', fz, b1, fun j u hj => by rw [Nat.add_assoc]; exact b2 _ u (q3 j u hj)⟩
          have := mk_rep hE (src := src) (Rep.ptr (S := Emp) hD hb' (hu.one hel) q1) hsrc
          simpa [mk, V.plain] using this
        ·cases he
       ·cases he
      ·cases he
    ·cases he
  ·cases hc
 ·cases hc
theorem ev_idx (hE : SimE N w0 D0 E st a w) {t : TypeId} {p q : Operand} {m : MO} (hc : compIdx P t p q = some m) {av : AV} (he : ev st m = some av) : ∃ z, (Instr.index t (a.eval p) (a.eval q)).run P w = .ok z w ∧ AvRep E av z := by
 have eo := hE.eo
 have ew := hE.ew
 unfold compIdx at hc
 split at hc
 ·rename_i x i hx hi ht
  simp only [Option.some.injEq] at hc; subst hc
  simp only [ev] at he
  split at he
  ·rename_i n s1 b hn hv
   obtain ⟨k, hk⟩ := asI_rep hE (get_rep hE hi) hn
   split at he
   ·rename_i h0
    split at he
    ·rename_i c hcc
     simp only [Option.some.injEq] at he; subst he
     have hr := (view_rep hE (get_rep hE hx) hv).1
     generalize hz : a.eval p = z at hr
     cases hr
     have : (⟨b.toArray⟩ : ByteArray)[n.toNat]? = some c := by
      have hlt : n.toNat < b.length := by
       rcases Nat.lt_or_ge n.toNat b.length with h | h
       ·exact h
       ·rw [List.getElem?_eq_none h] at hcc; cases hcc
      have hlt' : n.toNat < (⟨b.toArray⟩ : ByteArray).size := by simpa [ByteArray.size] using hlt
      rw [getElem?_pos (⟨b.toArray⟩ : ByteArray) n.toNat hlt']
      rw [List.getElem?_eq_getElem hlt] at hcc
      rw [← hcc]
      rfl
     exact ⟨_, by simp [Instr.index, hk, asIntOf, run_under ht, h0, this], .val0 (.int _ _)⟩
    ·cases he
   ·cases he
  ·cases he
 ·rename_i x i len e hx hi ht
  split at hc
  ·rename_i sz ag hsz hag
   simp only [Option.some.injEq] at hc; subst hc
   simp only [ev] at he
   split at he
   ·cases he
   ·rename_i n hn
    obtain ⟨k, hk⟩ := asI_rep hE (get_rep hE hi) hn
    split at he
    ·rename_i h0
     obtain ⟨h0, hlt⟩ := h0
     have h2 : n < (len : Int) := by omega
     have hg := get_rep hE hx
     split at he
     ·rename_i cs hq
      rw [hq] at hg
      generalize hz : a.eval p = z at hg
      cases hg with
      | agg k1 h =>
       rename_i vs
       split at he
       ·rename_i hag'
        subst hag'
        split at he
        ·simp only [Option.some.injEq] at he; subst he
         refine ⟨_, by simp only [Instr.index, Sem.run_bind, hk, asIntOf, Sem.run_pure, Result.andThen_ok, run_under ht, h0, h2, and_self, if_true, run_sizeOf' hsz]; exact part_agg hag hsz, ?_⟩
         rw [extract_list]
         exact .agg (fun v hv => k1 v (List.mem_of_mem_drop (List.mem_of_mem_take hv))) ((h.drop _).take _)
        ·cases he
       ·rename_i hag'
        have hag' : ag = false := by simpa using hag'
        subst hag'
        obtain ⟨y, hy, hrep⟩ := h.get he
        exact ⟨y, by simp only [Instr.index, Sem.run_bind, hk, asIntOf, Sem.run_pure, Result.andThen_ok, run_under ht, h0, h2, and_self, if_true, run_sizeOf' hsz]; exact part_one hag (by simpa using hy), hrep⟩
     ·split at he
      ·rename_i src cs hv
       obtain ⟨v, hl, rfl⟩ := Option.map_eq_some_iff.1 he
       obtain ⟨hr, hsrc⟩ := view_rep hE hg hv
       generalize hz : a.eval p = z at hr
       cases hr with
       | agg h1 h =>
        obtain ⟨z, hz, hrep⟩ := part_run (P := P) h h1 hl hag hsz
        exact ⟨z, by simp only [Instr.index, Sem.run_bind, hk, asIntOf, Sem.run_pure, Result.andThen_ok, run_under ht, h0, h2, and_self, if_true, run_sizeOf' hsz]; exact hz, mk_rep hE hrep hsrc⟩
      ·cases he
    ·cases he
  ·cases hc
 ·cases hc
theorem ev_ld (hE : SimE N w0 D0 E st a w) {t : TypeId} {p : Operand} {m : MO} (hc : compLd P t p = some m) {av : AV} (he : ev st m = some av) : ∃ z, (Instr.loadAt t (a.eval p)).run P w = .ok z w ∧ AvRep E av z := by
 have eo := hE.eo
 have ew := hE.ew
 unfold compLd at hc
 split at hc
 ·rename_i x n ag hx hn ha
  simp only [Option.some.injEq] at hc; subst hc
  have hg := get_rep hE hx
  have run : ∀ g q z, a.eval p = .pointer (some ⟨g, q, none⟩) → (loadVar t ⟨g, q, none⟩).run P w = .ok z w → (Instr.loadAt t (a.eval p)).run P w = .ok z w := by
   intro g q z hq hz
   simp [Instr.loadAt, hq, Instr.sureAddr, hz]
  simp only [ev] at he
  split at he
  ·rename_i r i f hq
   rw [hq] at hg
   generalize hz : a.eval p = z at hg
   rw [hz] at run
   cases hg with
   | ptrRow hr h h' =>
    split at he
    ·rename_i own sz L ho
     split at he
     ·rename_i e hel
      obtain ⟨v, hl, rfl⟩ := Option.map_eq_some_iff.1 he
      obtain ⟨hi, g, o, hlo, rfl⟩ := h _ _ _ (by rw [eo]; exact ho)
      obtain ⟨ws, q1, q2, q3, _⟩ := row_at hE ho hel hlo
      obtain ⟨z, hz, hrep⟩ := load_run (P := P) q2 q1 q3 hl ha hn
      exact ⟨z, run _ _ _ rfl hz, mk_rep hE hrep (by simp only [SrcOk]; rw [eo, ho]; rfl)⟩
     ·cases he
    ·rename_i cs ho
     obtain ⟨hi, g, hlo, rfl⟩ := h' _ (by rw [eo]; exact ho)
     have hroot := hE.good.roots r _ (by rw [eo]; exact ho)
     obtain ⟨g', cur, e, hlo', hh, hreps, k1⟩ := hroot
     rw [hlo] at hlo'
     simp only [Option.some.injEq, Prod.mk.injEq, and_true] at hlo'
     subst hlo'
     rw [ew] at hh
     have cell : ∀ j u, cur.toList[j]? = some u → w.cell? ⟨g, j, none⟩ = some u := by
      intro j u hj
      simp [World.cell?, hh]
      simpa using hj
     split at he
     ·rename_i hag
      subst hag
      split at he
      ·rename_i hle
       simp only [Option.some.injEq] at he; subst he
       have hlen := hreps.length
       refine ⟨.agg ((cur.toList.drop f).take n).toArray, run _ _ _ rfl (run_loadAgg ?_ (by simp at hlen ⊢; omega) ha hn), .agg (fun v hv => k1 v (List.mem_of_mem_drop (List.mem_of_mem_take hv))) ((hreps.drop f).take n)⟩
       intro j u hu
       rw [List.getElem?_take] at hu
       split at hu
       ·rw [List.getElem?_drop] at hu
        exact cell _ u hu
       ·cases hu
      ·cases he
     ·rename_i hag
      have hag' : ag = false := by simpa using hag
      subst hag'
      obtain ⟨y, hy, hrep⟩ := hreps.get he
      exact ⟨y, run _ _ _ rfl (run_loadOne (cell _ _ hy) ha), hrep⟩
    ·cases he
  ·split at he
   ·rename_i src cs hv
    obtain ⟨v, hl, rfl⟩ := Option.map_eq_some_iff.1 he
    obtain ⟨hr, hsrc⟩ := view_rep hE hg hv
    generalize hz : a.eval p = z at hr
    rw [hz] at run
    cases hr with
    | ptr hD hb h1 h =>
     obtain ⟨z, hz, hrep⟩ := load_run (P := P) (f := 0) hb h h1 hl ha hn
     exact ⟨z, run _ _ _ rfl hz, mk_rep hE hrep hsrc⟩
   ·cases he
 ·cases hc
theorem Rep.slice_part {D : BSet} {sz : Nat} {L : List V} {l h c : Nat} {ad : Option Addr} {n : Nat} (hr : Rep w D false (.sl sz L) (.slice ad n c) Emp) (h1 : l ≤ h) (h2 : h ≤ L.length) (hc : L.length ≤ c) :
  Rep w D false (.sl sz ((L.take h).drop l)) (.slice (if c = l then ad else ad.map (·.add (l * sz))) (h - l) (c - l)) Emp := by
 generalize hx : V.sl sz L = x at hr
 generalize hy : Value.slice ad n c = y at hr
 cases hr with
 | nil => 
  cases hx
  simp only [Value.slice.injEq] at hy
  obtain ⟨rfl, rfl, rfl⟩ := hy
  simp at h2; subst h2
  simp at h1; subst h1
  simpa using Rep.nil (w := w) (D := D) (o := false) (S := Emp) (ad := ad) sz
 | slro hD hb hu hrr hc' hm =>
  cases hx
  rename_i g off c2 vs
  simp only [Value.slice.injEq] at hy
  obtain ⟨rfl, rfl, rfl⟩ := hy
  have hlen : ((L.take h).drop l).length = h - l := by simp; omega
  by_cases hcl : c = l
  ·subst hcl
   have e0 : (L.take h).drop c = [] := by apply List.drop_eq_nil_of_le; simp; omega
   have e1 : h - c = 0 := by omega
   rw [if_pos rfl, e0, e1]
   have := Rep.slro (S := Emp) (sz := sz) (L := []) (c := c - c) (vs := []) hD (by obtain ⟨cur, e, fz, b1, b2⟩ := hb; exact ⟨cur, e, fz, b1, by simp⟩ : Blk w g off []) (by intro x hx; simp at hx) (by simpa using Reps.nil) (by simp) (by omega)
   simpa using this
  ·rw [if_neg hcl, ← hlen]
   simp only [Option.map_some, addr_add]
   refine .slro (vs := (vs.take (h * sz)).drop (l * sz)) hD ?_ (hu.take.drop) ?_ (by rw [hlen]; omega) (by omega)
   ·obtain ⟨cur, e, fz, b1, b2⟩ := hb
    refine ⟨cur, e, fz, b1, fun j u hj => ?_⟩
    rw [List.getElem?_drop, List.getElem?_take] at hj
    split at hj
    ·rw [Nat.add_assoc]; exact b2 _ u hj
    ·cases hj
   ·rw [mul_drop_blk hu.take, mul_take_blk hu]
    exact (hrr.take _).drop _
 | _ => cases hx
theorem ev_slc (hE : SimE N w0 D0 E st a w) {t : TypeId} {p : Operand} {lo hi mx : Option Operand} {m : MO} (hc : compSlc P t p lo hi mx = some m) {av : AV} (he : ev st m = some av) :
  ∃ z, (Instr.sliceAt t (a.eval p) (lo.map a.eval) (hi.map a.eval) (mx.map a.eval)).run P w = .ok z w ∧ AvRep E av z := by
 have eo := hE.eo
 have ew := hE.ew
 unfold compSlc at hc
 split at hc
 ·rename_i mx0
  split at hc
  ·rename_i x xl xh xm hx hl hh hm
   split at hc
   ·rename_i e ht
    split at hc
    ·rename_i sz hsz
     simp only [Option.some.injEq] at hc; subst hc
     have hg := get_rep hE hx
     simp only [ev] at he
     split at he
     ·rename_i r off len hq
      split at he
      ·rename_i own sz' L ho
       split at he
       ·rename_i l h m b1 b2 b3
        split at he
        ·rename_i hle
         obtain ⟨i1, i2, rfl, h1, h2, h3⟩ := hle
         simp only [Option.some.injEq] at he; subst he
         rw [hq] at hg
         have run : ∀ ad len2 c, a.eval p = .slice ad len2 c → len2 = len → m ≤ c → ∃ z, (Instr.sliceAt t (a.eval p) (lo.map a.eval) (hi.map a.eval) ((some mx0).map a.eval)).run P w = .ok z w := by
          intro ad len2 c hp e hc
          subst e
          refine ⟨.slice (if m = l then ad else ad.map (·.add (l * sz'))) (h - l) (m - l), ?_⟩
          simp only [Instr.sliceAt, Sem.run_bind, run_under ht, Result.andThen_ok, Instr.slice, hp, bounds_run3 hE hl hh hm b1 b2 b3 i1 i2 h1 h2 hc, run_sizeOf' hsz, Sem.run_pure]
         generalize hz : a.eval p = z at hg
         rw [hz] at run
         cases hg with
         | sl hr hat =>
          obtain ⟨hle, hat⟩ := hat _ _ _ (by rw [eo]; exact ho)
          have hroot := hE.good.roots r _ (by rw [eo]; exact ho)
          unfold SlAt at hat
          split at hat
          ·rename_i hlo
           simp only [RootRep, hlo] at hroot
           subst hroot
           obtain ⟨⟨ad, rfl⟩, rfl⟩ := hat
           have h3 : off + m ≤ 0 := h3
           obtain ⟨z', hz'⟩ := run _ _ _ rfl rfl (by omega)
           exact ⟨z', hz', .bad⟩
          ·rename_i g o hlo
           obtain ⟨ad, c, rfl, hl', hm', ha1, ha2, htt, cur, e', hh', hs⟩ := hat
           obtain ⟨z', hz'⟩ := run _ _ _ rfl rfl (by omega)
           exact ⟨z', hz', .bad⟩
        ·cases he
       ·cases he
      ·cases he
     ·cases he
    ·cases hc
   ·cases hc
  ·cases hc
 split at hc
 ·rename_i x xl xh e hx hl hh ht
  split at hc
  ·rename_i sz hsz
   simp only [Option.some.injEq] at hc; subst hc
   have hg := get_rep hE hx
   have run : ∀ ad len c l h, a.eval p = .slice ad len c → bnd st 0 xl = some l → bnd st len xh = some h → l ≤ h → h ≤ c →
     (Instr.sliceAt t (a.eval p) (lo.map a.eval) (hi.map a.eval) none).run P w = .ok (.slice (if c = l then ad else ad.map (·.add (l * sz))) (h - l) (c - l)) w := by
    intro ad len c l h hp b1 b2 h1 h2
    simp only [Instr.sliceAt, Sem.run_bind, run_under ht, Result.andThen_ok, Instr.slice, hp, bounds_run hE hl hh b1 b2 h1 h2, run_sizeOf' hsz, Sem.run_pure]
   simp only [ev] at he
   split at he
   ·rename_i r off len hq
    split at he
    ·rename_i own sz' L ho
     split at he
     ·rename_i l h b1 b2
      split at he
      ·rename_i hle
       obtain ⟨rfl, h1, h2⟩ := hle
       simp only [Option.some.injEq] at he; subst he
       rw [hq] at hg
       generalize hz : a.eval p = z at hg
       rw [hz] at run
       cases hg with
       | sl hr hat =>
        obtain ⟨hle, hat⟩ := hat _ _ _ (by rw [eo]; exact ho)
        have hroot := hE.good.roots r _ (by rw [eo]; exact ho)
        unfold SlAt at hat
        split at hat
        ·rename_i hlo
         simp only [RootRep, hlo] at hroot
         subst hroot
         obtain ⟨⟨ad, rfl⟩, rfl⟩ := hat
         have h2 : off + h ≤ 0 := h2
         have e1 : h = 0 := by omega
         subst e1
         have e2 : l = 0 := by omega
         subst e2
         refine ⟨_, run _ _ _ _ _ rfl b1 b2 h1 (by omega), .sl hr ?_⟩
         intro own' sz'' L' ho'
         rw [eo, ho] at ho'
         simp only [Option.some.injEq, Root.row.injEq] at ho'
         obtain ⟨rfl, rfl, rfl⟩ := ho'
         refine ⟨by omega, ?_⟩
         simp [SlAt, hlo]
         done
        ·rename_i g o hlo
         obtain ⟨ad, c, rfl, hl', hm, ha1, ha2, htt, cur, e', hh', hs⟩ := hat
         refine ⟨_, run _ _ _ _ _ rfl b1 b2 h1 (by omega), .sl hr ?_⟩
         intro own' sz'' L' ho'
         rw [eo, ho] at ho'
         simp only [Option.some.injEq, Root.row.injEq] at ho'
         obtain ⟨rfl, rfl, rfl⟩ := ho'
         refine ⟨by omega, ?_⟩
         simp only [SlAt, hlo]
         refine ⟨_, _, rfl, by omega, by omega, ?_, ?_, by omega, cur, e', hh', ?_⟩
         ·intro hne
          have hcl : ¬ c = l := by omega
          have := ha1 (by omega)
          subst this
          rw [if_neg hcl]
          simp only [Option.map_some, addr_add]
          rw [Nat.add_assoc, ← Nat.add_mul]
         ·intro hne
          have hcl : c = l := by omega
          rw [if_pos hcl]
          by_cases hc0 : c = 0
          ·exact ha2 hc0
          ·exact .inr ⟨_, ha1 hc0⟩
         ·intro hne
          have : off + l + (c - l) = off + c := by omega
          rw [this]
          exact hs (by omega)
      ·cases he
     ·cases he
    ·cases he
   ·split at he
    ·rename_i src sz' L hv
     split at he
     ·rename_i l h b1 b2
      split at he
      ·rename_i hle
       obtain ⟨rfl, h1, h2⟩ := hle
       simp only [Option.some.injEq] at he; subst he
       obtain ⟨hr, hsrc⟩ := view_rep hE hg hv
       have : ∃ ad c, a.eval p = .slice ad L.length c ∧ L.length ≤ c := by
        generalize a.eval p = z at hr
        cases hr with
        | nil => exact ⟨_, _, rfl, by simp⟩
        | slro _ _ _ _ hc' _ => exact ⟨_, _, rfl, hc'⟩
       obtain ⟨ad, c, hp, hcc⟩ := this
       refine ⟨_, run _ _ _ _ _ hp b1 b2 h1 (Nat.le_trans h2 hcc), ?_⟩
       rw [hp] at hr
       have := mk_rep hE (src := src) (hr.slice_part h1 h2 hcc) hsrc
       simpa [mk, V.plain] using this
      ·cases he
     ·cases he
    ·cases he
  ·cases hc
 ·rename_i x xl xh hx hl hh ht
  simp only [Option.some.injEq] at hc; subst hc
  have hg := get_rep hE hx
  simp only [ev] at he
  split at he
  ·rename_i src b hv
   split at he
   ·rename_i l h b1 b2
    split at he
    ·rename_i hle
     obtain ⟨h1, h2⟩ := hle
     simp only [Option.some.injEq] at he; subst he
     obtain ⟨hr, hsrc⟩ := view_rep hE hg hv
     generalize hz : a.eval p = z at hr
     cases hr
     refine ⟨.string ⟨((b.take h).drop l).toArray⟩, ?_, .val0 (.str _)⟩
     have hsz : ByteArray.size ⟨b.toArray⟩ = b.length := by simp [ByteArray.size]
     have hx : (⟨b.toArray⟩ : ByteArray).extract l h = ⟨((b.take h).drop l).toArray⟩ := by
      rw [ByteArray.ext_iff, ByteArray.data_extract]
      simp [List.extract, List.drop_take]
     simp only [Instr.sliceAt, Sem.run_bind, run_under ht, Result.andThen_ok, Instr.slice, Option.map_none, Option.isSome_none, Bool.false_eq_true, if_false, hsz, bounds_run hE hl hh b1 b2 h1 h2, Sem.run_pure, hx]
    ·cases he
   ·cases he
  ·cases he
 ·cases hc
theorem ev_ext (hE : SimE N w0 D0 E st a w) {p : Operand} {x : X} {j : Nat} (hx : compX p = some x) {av : AV} (he : ev st (.ext x j) = some av) : ∃ z, (Instr.extract (a.eval p) j).run P w = .ok z w ∧ AvRep E av z := by
 have hg := get_rep hE hx
 simp only [ev] at he
 split at he
 ·rename_i cs hq
  rw [hq] at hg
  generalize a.eval p = z at hg
  cases hg with
  | tup h =>
   obtain ⟨y, hy, hrep⟩ := h.get he
   exact ⟨y, by simp [Instr.extract, hy], hrep⟩
 ·cases he
theorem ev_bui (hE : SimE N w0 D0 E st a w) {c : Call} {ty : TypeId} {m : MO} (hc : compBui P c = some m) {av : AV} (he : ev st m = some av) :
  ∃ z, (do let d ← resolve a.eval c ty; invoke d.target d.args).run P w = .ok (.value z) w ∧ AvRep E av z := by
 have eo := hE.eo
 have ew := hE.ew
 obtain ⟨callee, args, argTypes⟩ := c
 obtain ⟨args⟩ := args
 obtain ⟨argTypes⟩ := argTypes
 unfold compBui at hc
 simp only at hc
 split at hc
 ·split at hc
  ·rename_i b p t
   have fin : ∀ n : Nat, (Builtin.len_ #[t] ty #[a.eval p]).run P w = .ok (.int .i64 n) w → ∃ z, (do let d ← resolve a.eval { callee := .builtin .len, args := ⟨[p]⟩, argTypes := ⟨[t]⟩ } ty; invoke d.target d.args).run P w = .ok (.value z) w ∧ AvRep E (.val none (.int .i64 n)) z := by
    intro n h
    refine ⟨.int .i64 n, ?_, .val0 (.int _ _)⟩
    simp [resolve, invoke, builtin, h]
   split at hc
   ·rename_i x e hx ht
    simp only [Option.some.injEq] at hc; subst hc
    have hg := get_rep hE hx
    have run : ∀ ad n c, a.eval p = .slice ad n c → (Builtin.len_ #[t] ty #[a.eval p]).run P w = .ok (.int .i64 n) w := by
     intro ad n c hp
     simp [Builtin.len_, run_under ht, hp, goInt]
    simp only [ev] at he
    split at he
    ·rename_i r off n hq
     split at he
     ·rename_i own sz L ho
      simp only [Option.some.injEq] at he; subst he
      rw [hq] at hg
      refine fin _ ?_
      generalize hz : a.eval p = z at hg
      rw [hz] at run
      cases hg with
      | sl hr hat =>
       obtain ⟨_, hat⟩ := hat _ _ _ (by rw [eo]; exact ho)
       unfold SlAt at hat
       split at hat
       ·obtain ⟨⟨ad, rfl⟩, rfl⟩ := hat
        exact run _ _ _ rfl
       ·obtain ⟨ad, c, rfl, _⟩ := hat
        exact run _ _ _ rfl
     ·cases he
    ·split at he
     ·rename_i src sz L hv
      simp only [Option.some.injEq] at he; subst he
      have hr := (view_rep hE hg hv).1
      refine fin _ ?_
      generalize hz : a.eval p = z at hr
      rw [hz] at run
      cases hr with
      | nil => exact run _ _ _ rfl
      | slro => exact run _ _ _ rfl
     ·cases he
   ·rename_i x hx ht
    simp only [Option.some.injEq] at hc; subst hc
    have hg := get_rep hE hx
    simp only [ev] at he
    split at he
    ·rename_i src b hv
     simp only [Option.some.injEq] at he; subst he
     have hr := (view_rep hE hg hv).1
     refine fin _ ?_
     generalize hz : a.eval p = z at hr
     cases hr
     have hsz : ByteArray.size ⟨b.toArray⟩ = b.length := by simp [ByteArray.size]
     simp only [Builtin.len_, List.getElem?_toArray, List.getElem?_cons_zero, Sem.run_bind, run_under ht, Result.andThen_ok, Sem.run_pure, goInt, hsz]
    ·cases he
   ·cases hc
  ·rename_i p q
   split at hc
   ·rename_i x y hx hy
    simp only [Option.some.injEq] at hc; subst hc
    simp only [ev] at he
    split at he
    ·rename_i s1 k n s2 k2 n2 h1 h2
     simp only [Option.some.injEq] at he; subst he
     have r1 := (view_rep hE (get_rep hE hx) h1).1
     have r2 := (view_rep hE (get_rep hE hy) h2).1
     generalize hz1 : a.eval p = z1 at r1
     generalize hz2 : a.eval q = z2 at r2
     cases r1
     cases r2
     refine ⟨.int k (if n2 > n then n2 else n), ?_, by simpa using AvRep.val0 (.int _ _)⟩
     simp [resolve, invoke, builtin, hz1, hz2, Builtin.max_, Builtin.max2]
    ·cases he
   ·cases hc
  ·rename_i p q
   split at hc
   ·rename_i x y hx hy
    simp only [Option.some.injEq] at hc; subst hc
    simp only [ev] at he
    split at he
    ·rename_i s1 k n s2 k2 n2 h1 h2
     simp only [Option.some.injEq] at he; subst he
     have r1 := (view_rep hE (get_rep hE hx) h1).1
     have r2 := (view_rep hE (get_rep hE hy) h2).1
     generalize hz1 : a.eval p = z1 at r1
     generalize hz2 : a.eval q = z2 at r2
     cases r1
     cases r2
     refine ⟨.int k (if n2 < n then n2 else n), ?_, by simpa using AvRep.val0 (.int _ _)⟩
     simp [resolve, invoke, builtin, hz1, hz2, Builtin.min_, Builtin.min2]
    ·cases he
   ·cases hc
  ·cases hc
 ·cases hc
theorem execOp_value {ρ : Operand → Value} {o : Oper} {s : Sem Value} (h : execOp ρ o = (do pure (.value (← s)))) {z : Value} (hz : s.run P w = .ok z w) : (execOp ρ o).run P w = .ok (.value z) w := by
 rw [h]; simp [hz]
theorem mapOf_rep (hE : SimE N w0 D0 E st a w) {c : AV} {x : Value} (h : AvRep E c x) {es : List (Sc × Sc)} (hm : mapOf st c = some es) : ∃ g, x = .map (some g) ∧ w.heap[g]? = some (.map (ents 0 es).toArray es.length) := by
 have eo := hE.eo
 unfold mapOf at hm
 split at hm
 ·rename_i r
  split at hm
  ·rename_i es' ho
   simp only [Option.some.injEq] at hm; subst hm
   rw [← eo] at ho
   obtain ⟨g, h1, h2⟩ := hE.good.roots r _ ho
   cases h with
   | mp hr h =>
    obtain ⟨g', h3, rfl⟩ := h _ ho
    rw [h1] at h3
    simp only [Option.some.injEq, Prod.mk.injEq, and_true] at h3
    subst h3
    exact ⟨g, rfl, by rw [← hE.ew]; exact h2⟩
  ·cases hm
 ·split at hm
  ·rename_i src es' hv
   simp only [Option.some.injEq] at hm; subst hm
   obtain ⟨hr, _⟩ := view_rep hE h hv
   cases hr with
   | mp hD hb => exact ⟨_, rfl, hb⟩
  ·cases hm
theorem sc_rep {D : BSet} {o : Bool} {S : BSet} {v : V} {s : Sc} (hs : v.sc = some s) {x : Value} (h : Rep w D o v x S) : x = s.val := by
 unfold V.sc at hs
 split at hs <;> first | cases hs; done | (simp only [Option.some.injEq] at hs; subst hs; cases h; rfl)
theorem scOf_rep (hE : SimE N w0 D0 E st a w) {c : AV} {x : Value} (h : AvRep E c x) {s : Sc} (hs : scOf st c = some s) : x = s.val := by
 unfold scOf at hs
 split at hs
 ·rename_i src v hv
  exact sc_rep hs (view_rep hE h hv).1
 ·cases hs
theorem rep_sc {D : BSet} {o : Bool} {S : BSet} (s : Sc) : Rep w D o s.v s.val S := by
 cases s <;> constructor
theorem ev_lk (hE : SimE N w0 D0 E st a w) {t : TypeId} {x i : Operand} {ok : Bool} {m : MO} (hc : compLk P t x i ok = some m) {av : AV} (he : ev st m = some av) : ∃ z, (Instr.lookup t (a.eval x) (a.eval i) ok).run P w = .ok z w ∧ AvRep E av z := by
 unfold compLk at hc
 split at hc
 ·rename_i x' i' kd z hx hi ht
  simp only [Option.some.injEq] at hc; subst hc
  simp only [ev] at he
  split at he
  ·rename_i es kv hm hk
   obtain ⟨g, hg, hb⟩ := mapOf_rep hE (get_rep hE hx) hm
   have hkv := scOf_rep hE (get_rep hE hi) hk
   rw [hg, hkv]
   split at he
   ·rename_i j v hf
    simp only [Option.some.injEq] at he; subst he
    refine ⟨_, run_lookSc ht hb hf ok, ?_⟩
    cases ok with
    | true => exact .tup (.cons (.val0 (rep_sc v)) (.cons (.val0 (.bool true)) .nil))
    | false => exact .val0 (rep_sc v)
   ·rename_i hf
    simp only [Option.some.injEq] at he; subst he
    refine ⟨_, run_lookSc ht hb hf ok, ?_⟩
    cases ok with
    | true => exact .tup (.cons (.val0 (rep_sc z)) (.cons (.val0 (.bool false)) .nil))
    | false => exact .val0 (rep_sc z)
   ·cases he
  ·cases he
 ·cases hc
theorem ev_sound (hE : SimE N w0 D0 E st a w) {o : Oper} {m : MO} (hc : compP P o.op = some m) {av : AV} (he : ev st m = some av) : Yld P E a w o av := by
 obtain ⟨dst, op, ty, pos, after, guard⟩ := o
 cases op <;> simp only [compP] at hc <;> try (cases hc; done)
 case move x =>
  obtain ⟨y, hx, rfl⟩ := Option.map_eq_some_iff.1 hc
  simp only [ev, Option.some.injEq] at he; subst he
  exact ⟨_, by simp [execOp], get_rep hE hx⟩
 case assign x => exact ⟨_, by simp [execOp], ev_asg hE hc he⟩
 case pick c x y =>
  obtain ⟨t, ht, hr⟩ := ev_pick hE hc he
  exact ⟨_, by simp [execOp, ht, asBool], hr⟩
 case nilCheck x =>
  obtain ⟨y, hx, rfl⟩ := Option.map_eq_some_iff.1 hc
  obtain ⟨hr, hp⟩ := ev_nck hE hx he
  rcases hp with ⟨b, hb⟩ | ⟨f, cs, hb⟩
  ·exact ⟨.pointer (some b), by simp [execOp, hb], by rw [hb] at hr; exact hr⟩
  ·exact ⟨.func (.func f) #[] cs, by simp [execOp, hb], by rw [hb] at hr; exact hr⟩
 case binOp op t x y yt =>
  obtain ⟨z, hz, hr⟩ := ev_bin hE hc he
  exact ⟨z, execOp_value rfl hz, hr⟩
 case unOp u t x =>
  obtain ⟨z, hz, hr⟩ := ev_un (P := P) hE hc he
  exact ⟨z, execOp_value rfl hz, hr⟩
 case convert s d x =>
  obtain ⟨z, hz, hr⟩ := ev_conv hE hc he
  exact ⟨z, execOp_value rfl hz, hr⟩
 case fieldAddr s x f =>
  obtain ⟨z, hz, hr⟩ := ev_fad hE hc he
  exact ⟨z, execOp_value rfl hz, hr⟩
 case field s x f =>
  obtain ⟨z, hz, hr⟩ := ev_fld hE hc he
  exact ⟨z, execOp_value rfl hz, hr⟩
 case indexAddr t x i =>
  obtain ⟨z, hz, hr⟩ := ev_iad hE hc he
  exact ⟨z, execOp_value rfl hz, hr⟩
 case index t x i =>
  obtain ⟨z, hz, hr⟩ := ev_idx hE hc he
  exact ⟨z, execOp_value rfl hz, hr⟩
 case lookup t x i ok =>
  obtain ⟨z, hz, hr⟩ := ev_lk hE hc he
  exact ⟨z, execOp_value rfl hz, hr⟩
 case load t x =>
  obtain ⟨z, hz, hr⟩ := ev_ld hE hc he
  exact ⟨z, execOp_value rfl hz, hr⟩
 case slice t x lo hi mx =>
  obtain ⟨z, hz, hr⟩ := ev_slc hE hc he
  exact ⟨z, execOp_value rfl hz, hr⟩
 case extract x j =>
  obtain ⟨y, hx, rfl⟩ := Option.map_eq_some_iff.1 hc
  obtain ⟨z, hz, hr⟩ := ev_ext (P := P) hE hx he
  exact ⟨z, execOp_value rfl hz, hr⟩
 case makeFunc fn first caps =>
  obtain ⟨first⟩ := first
  obtain ⟨caps⟩ := caps
  unfold compMkf at hc
  split at hc
  ·rename_i f h1
   simp only at h1
   subst h1
   obtain ⟨xs, hx, rfl⟩ := Option.map_eq_some_iff.1 hc
   simp only [ev, Option.some.injEq] at he; subst he
   refine ⟨.func (.func f) #[] (caps.map a.eval).toArray, by simp [execOp, Instr.makeFunc], .fn (gets_rep hE hx)⟩
  ·cases hc
 case call c =>
  obtain ⟨z, hz, hr⟩ := ev_bui (P := P) (ty := ty) hE hc he
  exact ⟨z, hz, hr⟩
end
end Go.Ab
