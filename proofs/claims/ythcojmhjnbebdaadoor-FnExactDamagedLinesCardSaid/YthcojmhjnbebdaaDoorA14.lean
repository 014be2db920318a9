/- Operations that make or change memory: each does what 'eff' says (own framework). -/
import Derived.Test.YthcojmhjnbebdaaDoorA13
set_option linter.unusedVariables false
set_option linter.unusedSimpArgs false
namespace Go.Ab
open Go.RowKit

def cellSz (P : Program) : Nat → TypeId → List Nat
  | 0, _ => []
  | k + 1, t => match P.underlying t with
    | some (.struct fs) => fs.toList.flatMap fun f => cellSz P k f.type
    | some (.array n e) => (List.replicate n (cellSz P k e)).flatten
    | some (.slice e) => [(sizeT P e).getD 0]
    | _ => [0]
def zeroOf (P : Program) (t : TypeId) : Option Value := (P.info? t).bind (·.zero)
def zipSz : List V → List Nat → List (V × Nat × Bool)
  | [], _ => []
  | v :: vs, [] => (v, 0, false) :: zipSz vs []
  | v :: vs, n :: ns => (v, n, false) :: zipSz vs ns
def mask (ps : List (Nat × Nat × X)) (k : Nat) : List (V × Nat × Bool) → List (V × Nat × Bool)
  | [] => []
  | (v, n, _) :: zs => (v, n, ps.any fun p => decide (p.1 ≤ k) && decide (k < p.1 + p.2.1)) :: mask ps (k + 1) zs
def szC : V → Nat → V
  | .sl _ [], n => .sl n []
  | v, _ => v
def szCs : List V → List Nat → List V
  | v :: vs, n :: ns => szC v n :: szCs vs ns
  | vs, [] => vs
  | [], _ => []
/-- A zero value whose nil slices know the sizes of their elements. -/
def szV (ns : List Nat) : V → V
  | .agg cs => .agg (szCs cs ns)
  | v => szC v (ns.headD 0)
theorem szC_cells {v : V} {n : Nat} (h : v.one = true) : (szC v n).cells = [szC v n] ∧ (szC v n).one = true := by
  unfold szC
  split
  · exact ⟨rfl, rfl⟩
  · exact ⟨V.cells_one h, h⟩
theorem ofConst1_szO {w : World} {D : BSet} {o : Bool} {v : Value} {x : V} {n : Nat} (h : ofConst1 v = some x) : Rep w D o (szC x n) v Emp := by
  unfold ofConst1 at h
  split at h
  all_goals first | (cases h; done) | (simp only [Option.some.injEq] at h; subst h)
  · exact .int _ _
  · exact .bool _
  · exact by simpa [szC] using Rep.str (w := w) (D := D) (o := o) (S := Emp) _
  · exact .nil n
theorem ofConsts_szO {w : World} {D : BSet} {o : Bool} : ∀ {vs : List Value} {xs : List V} (ns : List Nat), ofConsts vs = some xs → Reps w D o (szCs xs ns) vs Emp ∧ ∀ c ∈ szCs xs ns, V.one c = true
  | [], xs, ns, h => by
    simp only [ofConsts, Option.some.injEq] at h
    subst h
    cases ns <;> exact ⟨.nil, by simp [szCs]⟩
  | v :: vs, xs, [], h => by
    have e : szCs xs [] = xs := by cases xs <;> rfl
    rw [e]
    exact ⟨ofConsts_repO h, (ofConsts_rep (w := w) (D := D) h).2⟩
  | v :: vs, xs, n :: ns, h => by
    simp only [ofConsts] at h
    split at h
    · rename_i x ys hx hy
      simp only [Option.some.injEq] at h
      subst h
      obtain ⟨h1, h2⟩ := ofConsts_szO (w := w) (D := D) (o := o) ns hy
      refine ⟨.cons (ofConst1_szO hx) h1 (fun _ h => h.elim) (fun _ h => h) (fun _ h => h), ?_⟩
      intro c hc
      rcases List.mem_cons.1 hc with rfl | hc
      · exact (szC_cells (ofConst1_rep (w := w) (D := D) hx).2).2
      · exact h2 c hc
    · cases h
theorem ofConst_szO {w : World} {D : BSet} {o : Bool} {v : Value} {x : V} (ns : List Nat) (h : ofConst v = some x) : Rep w D o (szV ns x) v Emp := by
  unfold ofConst at h
  split at h
  · rename_i cs
    obtain ⟨xs, hx, rfl⟩ := Option.map_eq_some_iff.1 h
    obtain ⟨h1, h2⟩ := ofConsts_szO (w := w) (D := D) (o := o) ns hx
    exact by simpa [szV] using Rep.agg h2 h1
  · have h2 : szV ns x = szC x (ns.headD 0) := by
      have := (ofConst1_rep (w := w) (D := D) h).2
      cases x <;> first | rfl | simp [V.one] at this
    rw [h2]
    exact ofConst1_szO h
theorem mask_fst (ps : List (Nat × Nat × X)) : ∀ (zs : List (V × Nat × Bool)) (k : Nat), (mask ps k zs).map (·.1) = zs.map (·.1)
  | [], _ => rfl
  | (v, n, b) :: zs, k => by simp [mask, mask_fst ps zs (k + 1)]
theorem zipSz_fst : ∀ (vs : List V) (ns : List Nat), (zipSz vs ns).map (·.1) = vs
  | [], _ => rfl
  | v :: vs, [] => by simp [zipSz, zipSz_fst vs []]
  | v :: vs, n :: ns => by simp [zipSz, zipSz_fst vs ns]

def compParts (ps : List (Nat × Operand)) (i : Nat) : Option (List X) := match ps with
  | [] => some []
  | (k, p) :: ps => if k = i then (match compX p, compParts ps (i + 1) with
    | some x, some xs => some (x :: xs)
    | _, _ => none) else none

/-- Were the values of this operand made for it alone? (by the operation that made them) -/
def compAlloc (P : Program) (t : TypeId) : Option FO := match zeroOf P t with
  | some z => match ofConsts z.cells.toList with
    | some zs => some (.alloc (zipSz zs (cellSz P 6 t)))
    | none => none
  | none => none
def compFill (place : Nat → Option (Nat × Nat)) : List (Nat × Operand) → Option (List (Nat × Nat × X))
  | [] => some []
  | (i, x) :: ps => match place i, compX x, compFill place ps with
    | some (off, n), some y, some l => some ((off, n, y) :: l)
    | _, _, _ => none
def placesOf (P : Program) (t : TypeId) : Option (Nat → Option (Nat × Nat)) := match P.underlying t with
  | some (.array _ e) => (P.info? e).map fun ie => fun i => some (i * ie.size, ie.size)
  | some (.struct fields) => (fields.toList.mapM (fun f => (P.info? f.type).map fun i => (f.offset, i.size))).map fun l => fun i => l.toArray[i]?
  | _ => none
def compBld (P : Program) (t : TypeId) (ps : List (Nat × Operand)) : Option FO := match zeroOf P t, placesOf P t with
  | some z, some place => match ofConsts z.cells.toList, compFill place ps with
    | some zs, some l => some (.bld (mask l 0 (zipSz zs (cellSz P 6 t))) l)
    | _, _ => none
  | _, _ => none
def compAsgN (P : Program) (ty : TypeId) (p : Operand) : Option FO := match p with
  | .const v => match v with
    | .slice none 0 0 => match P.underlying ty with
      | some (.slice e) => (sizeT P e).map FO.nilrow
      | _ => none
    | _ => none
  | _ => none
def isZero : Option Operand → Bool
  | some (.const (.int _ 0)) => true
  | _ => false
def compSlc3 (P : Program) (t : TypeId) (x : Operand) (lo hi mx : Option Operand) : Option FO :=
  if (lo.isNone || isZero lo) && isZero hi && isZero mx then (match compX x, P.underlying t with
    | some x, some (.slice e) => (sizeT P e).map (FO.nilof x)
    | _, _ => none) else none
def compBsl (P : Program) (t : TypeId) (n : Nat) (ps : List (Nat × Operand)) : Option FO := match P.underlying t with
  | some (.slice e) => match sizeT P e, zeroOf P e, compParts ps 0 with
    | some sz, some z, some xs => if ps.length = n ∧ n * sz ≤ 16777216 ∧ z.cells.size = sz ∧ n ≤ 16777216 then some (.bsl sz xs) else none
    | _, _, _ => none
  | _ => none
def compMks (P : Program) (t : TypeId) (l c : Operand) : Option FO := match P.underlying t with
  | some (.slice e) => match P.info? e with
    | some i => match i.zero with
      | some z => match ofConst z, compX l, compX c with
        | some zv, some l, some c => if z.cells.size = i.size then some (.mks i.size i.bytes (szV (cellSz P 6 e) zv) l c) else none
        | _, _, _ => none
      | none => none
    | none => none
  | _ => none
def compSt (P : Program) (t : TypeId) (x v : Operand) : Option FO := match compX x, compX v, sizeT P t with
  | some x, some v, some (n + 1) => some (.st x v (n + 1))
  | _, _, _ => none
def compApp (P : Program) (c : Call) (mv : Bool) : Option FO := match c.callee with
  | .builtin .append => match c.args.toList, c.argTypes.toList with
    | [x, y], [t, t'] => if t = t' then (match P.underlying t with
      | some (.slice e) => match P.info? e with
        | some i => match i.zero with
          | some z => match compX x, compX y with
            | some x, some y => if z.cells.size = i.size then some (.app x y i.size i.bytes mv) else none
            | _, _ => none
          | none => none
        | none => none
      | _ => none) else none
    | _, _ => none
  | _ => none

def compClr (P : Program) (c : Call) : Option FO := match c.callee with
  | .builtin .clear => match c.args.toList, c.argTypes.toList with
    | [x], [t] => match P.underlying t with
      | some (.slice e) => match P.info? e with
        | some i => match i.zero with
          | some z => match ofConst z, compX x with
            | some zv, some x => if z.cells.size = i.size then some (.clr x (szV (cellSz P 6 e) zv) i.size) else none
            | _, _ => none
          | none => none
        | none => none
      | _ => none
    | _, _ => none
  | _ => none

def compMkm (P : Program) (t : TypeId) : Option Operand → Option FO
  | none => some .mkm
  | some (.const (.int _ _)) => match P.underlying t with
    | some (.map _ _) => some .mkm
    | _ => none
  | _ => none
def compMpu (P : Program) (t : TypeId) (m k v : Operand) : Option FO := match compX m, compX k, compX v, mapT P t with
  | some m, some k, some v, some (kd, _) => some (.mpu kd m k v)
  | _, _, _, _ => none
def compMen (P : Program) (t : TypeId) (m k : Operand) : Option FO := match compX m, compX k, mapT P t with
  | some m, some k, some (kd, z) => some (.men kd m k z)
  | _, _, _ => none
def compMes (m s v : Operand) : Option FO := match compX m, compX s, compX v with
  | some m, some s, some v => some (.mes m s v)
  | _, _, _ => none
def compF (P : Program) (ty : TypeId) (mv : Bool) : Op → Option FO
  | .box _ x => (compX x).map FO.box
  | .alloc t => compAlloc P t
  | .build t ps => compBld P t ps.toList
  | .assign p => compAsgN P ty p
  | .slice t x lo hi mx => compSlc3 P t x lo hi mx
  | .buildSlice t n ps => compBsl P t n ps.toList
  | .makeSlice t l c => compMks P t l c
  | .store t x v => compSt P t x v
  | .makeMap t r => compMkm P t r
  | .mapUpdate t m k v => compMpu P t m k v
  | .insert t m k v => compMpu P t m k v
  | .mapEntry t m k => compMen P t m k
  | .entryStore _ m s v => compMes m s v
  | .call c => match compApp P c mv with
    | some m => some m
    | none => compClr P c
  | _ => none

section
variable {P : Program} {N : Fr} {w0 : Base} {D0 : BSet} {E : Env} {st : St} {a : Act} {w : World}

theorem eff_box (hE : SimE N w0 D0 E st a w) {id : Nat} (hf : st.objs id = none) {p : Operand} {x : X} (hx : compX p = some x) {cs : List AV} (hc : cellsAV st (st.get x) = some cs) (t : TypeId) :
    ∃ E', E.Le E' ∧ Good w0 D0 E' ∧ E'.objs = upd st.objs id (some (.box cs)) ∧ (Instr.box t (a.eval p)).run P w = .ok (.pointer (some ⟨w.heap.size, 0, none⟩)) E'.w ∧ AvRep E' (.ptr id 0 0) (.pointer (some ⟨w.heap.size, 0, none⟩)) := by
  have ew := hE.ew
  have eo := hE.eo
  obtain ⟨h1, h2⟩ := cellsAV_rep hE (get_rep hE hx) hc
  obtain ⟨E', le, g, hw, ho, hr⟩ := mk_box hE.good (id := id) (by rw [eo]; exact hf) h1 h2 t
  rw [ew] at hw hr
  refine ⟨E', le, g, by rw [ho, eo], ?_, hr⟩
  rw [hw]
  simp [Instr.box, newVar, newRow]

theorem zcells_rep : ∀ {zs : List (V × Nat × Bool)} {E : Env} (hg : Good w0 D0 E) {id : Nat} (hf : ∀ k, k < zs.length → E.objs (id + k) = none) {vs : List Value} (h : ofConsts vs = some (zs.map (·.1))),
    ∃ E', E.Le E' ∧ Good w0 D0 E' ∧ E'.w = E.w ∧ E'.objs = (zcells id E.objs zs).2 ∧ AvReps E' (zcells id E.objs zs).1 vs ∧ (∀ v ∈ vs, v.oneCell' = true) ∧ (∀ q, (q < id ∨ id + zs.length ≤ q) → E'.objs q = E.objs q)
  | [], E, hg, id, hf, vs, h => by
    cases vs with
    | nil => exact ⟨E, Env.Le.refl E, hg, rfl, rfl, .nil, by simp, fun q _ => rfl⟩
    | cons v vs =>
      simp only [ofConsts, List.map_nil] at h
      split at h <;> simp at h
  | (z, n, b) :: zs, E, hg, id, hf, vs, h => by
    cases vs with
    | nil => simp [ofConsts] at h
    | cons v vs =>
      simp only [ofConsts, List.map_cons] at h
      split at h
      · rename_i x ys hx hy
        simp only [Option.some.injEq, List.cons.injEq] at h
        obtain ⟨rfl, rfl⟩ := h
        have hone : v.oneCell' = true := (ofConst1_rep (w := E.w) (D := E.D) hx).1.oneCell (ofConst1_rep (w := E.w) (D := E.D) hx).2
        by_cases hz : x = .sl 0 [] ∧ b = false
        · obtain ⟨rfl, rfl⟩ := hz
          have hv : v = .slice none 0 0 := by
            unfold ofConst1 at hx
            split at hx <;> simp at hx
            rfl
          subst hv
          obtain ⟨E1, le1, g1, w1, o1, r1⟩ := mk_nil hg (sz := n) (hf 0 (by simp)) none
          rw [Nat.add_zero] at o1 r1
          have hf1 : ∀ k, k < zs.length → E1.objs (id + 1 + k) = none := by
            intro k hk
            rw [o1, upd_ne (by omega)]
            have := hf (k + 1) (by simp; omega)
            rw [show id + 1 + k = id + (k + 1) by omega]
            exact this
          obtain ⟨E2, le2, g2, w2, o2, r2, one2, oth2⟩ := zcells_rep g1 hf1 hy
          rw [o1] at o2 r2
          refine ⟨E2, le1.trans le2, g2, w2.trans w1, by simp only [zcells, zc1]; exact o2, by simp only [zcells, zc1]; exact .cons (r1.le le2) r2, ?_, ?_⟩
          · intro y hy'
            rcases List.mem_cons.1 hy' with rfl | hy'
            · exact hone
            · exact one2 y hy'
          · intro q hq
            simp only [List.length_cons] at hq
            rw [oth2 q (by omega), o1, upd_ne (by omega)]
        · obtain ⟨E2, le2, g2, w2, o2, r2, one2, oth2⟩ := zcells_rep hg (id := id) (fun k hk => hf k (by simp; omega)) hy
          obtain ⟨av, e1, hav⟩ : ∃ av, zc1 id E.objs (x, n, b) = (av, E.objs, id) ∧ AvRep E2 av v := by
            cases b with
            | true => exact ⟨.bad, rfl, .bad⟩
            | false =>
              refine ⟨.val none x, ?_, .val0 (ofConst1_repO hx)⟩
              cases x with
              | sl sz L =>
                cases sz with
                | zero => cases L with
                  | nil => exact absurd ⟨rfl, rfl⟩ hz
                  | cons => rfl
                | succ => rfl
              | _ => rfl
          simp only [zcells, e1]
          refine ⟨E2, le2, g2, w2, o2, .cons hav r2, ?_, ?_⟩
          · intro y hy'
            rcases List.mem_cons.1 hy' with rfl | hy'
            · exact hone
            · exact one2 y hy'
          · intro q hq
            simp only [List.length_cons] at hq
            exact oth2 q (by omega)
      · cases h

theorem zero_run {t : TypeId} {z : Value} (hz : zeroOf P t = some z) : (zeroValue t).run P w = .ok z w := by
  unfold zeroOf at hz
  cases hi : P.info? t with
  | none => rw [hi] at hz; simp at hz
  | some i => rw [hi] at hz; simp at hz; simp [zeroValue, typeInfo, hi, hz]

theorem fillB_run (hE : SimE N w0 D0 E st a w) {E' : Env} (le : E.Le E') {place : Nat → Option (Nat × Nat)} : ∀ {ps : List (Nat × Operand)} {l : List (Nat × Nat × X)} {cs cs' : List AV} {cells : Array Value}, compFill place ps = some l → AvReps E' cs cells.toList → (∀ v ∈ cells.toList, v.oneCell' = true) → fillB st l cs = some cs' →
    ∃ cells', Instr.fill place cells (ps.map fun p => (p.1, a.eval p.2)) = some cells' ∧ AvReps E' cs' cells'.toList ∧ ∀ v ∈ cells'.toList, v.oneCell' = true
  | [], l, cs, cs', cells, hc, hr, h1, hf => by
    simp only [compFill, Option.some.injEq] at hc; subst hc
    simp only [fillB, Option.some.injEq] at hf; subst hf
    exact ⟨cells, rfl, hr, h1⟩
  | (i, x) :: ps, l, cs, cs', cells, hc, hr, h1, hf => by
    simp only [compFill] at hc
    split at hc
    · rename_i off n y l' hp hx hl
      simp only [Option.some.injEq] at hc; subst hc
      simp only [fillB] at hf
      split at hf
      · rename_i us hus
        split at hf
        · rename_i hk
          obtain ⟨hk1, hk2⟩ := hk
          obtain ⟨r1, r2⟩ := cellsAV_rep hE (get_rep hE hx) hus
          have len1 := r1.length
          have len2 := hr.length
          simp only [Array.length_toList] at len1 len2
          have hfold := fold_set off (a.eval x).cells cells (by omega)
          obtain ⟨cells', e1, e2, e3⟩ := fillB_run hE le (cells := (cells.toList.take off ++ (a.eval x).cells.toList ++ cells.toList.drop (off + (a.eval x).cells.size)).toArray) hl (by
            have hn : (a.eval x).cells.size = n := by omega
            rw [hn]
            exact ((hr.take off).append (r1.le le)).append (hr.drop (off + n))) (by
            intro v hv
            simp only [List.mem_append] at hv
            rcases hv with (hv | hv) | hv
            · exact h1 v (List.mem_of_mem_take hv)
            · exact r2 v hv
            · exact h1 v (List.mem_of_mem_drop hv)) hf
          refine ⟨cells', ?_, e2, e3⟩
          simp only [List.map_cons, Instr.fill, hp]
          have hcond : (decide ((a.eval x).cells.size ≠ n) || decide (off + (a.eval x).cells.size > cells.size)) = false := by
            simp only [Bool.or_eq_false_iff, decide_eq_false_iff_not]
            exact ⟨fun h => h (by omega), fun h => by omega⟩
          rw [hcond]
          simp only [Bool.false_eq_true, if_false]
          rw [hfold]
          exact e1
        · cases hf
      · cases hf
    · cases hc

theorem eff_bld (hE : SimE N w0 D0 E st a w) {id : Nat} (hf : ∀ k, k < 64 → st.objs (id + k) = none) {t : TypeId} {ps : Array (Nat × Operand)} {m : FO} (hc : compBld P t ps.toList = some m) {av : AV} {ob : Objs} (he : eff st id m = some (av, ob)) :
    ∃ E' v, E.Le E' ∧ Good w0 D0 E' ∧ E'.objs = ob ∧ E'.w = w ∧ (Instr.build t (ps.map fun p => (p.1, a.eval p.2))).run P w = .ok v w ∧ AvRep E' av v := by
  have ew := hE.ew
  have eo := hE.eo
  unfold compBld at hc
  split at hc
  · rename_i z place hz hpl
    split at hc
    · rename_i zs l hzs hl
      simp only [Option.some.injEq] at hc; subst hc
      simp only [eff] at he
      split at he
      · rename_i hlen
        split at he
        · rename_i cs hcs
          simp only [Option.some.injEq, Prod.mk.injEq] at he
          obtain ⟨rfl, rfl⟩ := he
          obtain ⟨E1, le1, g1, w1, o1, r1, one1, oth1⟩ := zcells_rep hE.good (id := id) (zs := mask l 0 (zipSz zs (cellSz P 6 t))) (fun k hk => by rw [eo]; exact hf k (by omega)) (vs := z.cells.toList) (by rw [mask_fst, zipSz_fst]; exact hzs)
          rw [eo] at r1 o1
          obtain ⟨cells', e1, e2, e3⟩ := fillB_run hE le1 hl r1 one1 hcs
          refine ⟨E1, .agg cells', le1, g1, o1, by rw [w1, ew], run_build w t _ cells' ?_, by simpa using AvRep.agg e3 e2⟩
          unfold placesOf at hpl
          have hlist : (ps.map fun p => (p.1, a.eval p.2)).toList = ps.toList.map fun p => (p.1, a.eval p.2) := by simp
          unfold zeroOf at hz
          unfold Program.built
          cases hi : P.info? t with
          | none => rw [hi] at hz; simp at hz
          | some it =>
            rw [hi] at hz
            simp only [Option.bind_some] at hz
            split at hpl
            · rename_i n e hu
              obtain ⟨ie, hie, rfl⟩ := Option.map_eq_some_iff.1 hpl
              simp only [hu, hz, hie, hlist]
              exact e1
            · rename_i fields hu
              obtain ⟨pl, hpl2, rfl⟩ := Option.map_eq_some_iff.1 hpl
              simp only [hu, hz, hlist]
              rw [hpl2]
              exact e1
            · cases hpl
        · cases he
      · cases he
    · cases hc
  · cases hc

theorem eff_alloc (hE : SimE N w0 D0 E st a w) {id : Nat} (hf : ∀ k, k < 64 → st.objs (id + k) = none) {t : TypeId} {m : FO} (hc : compAlloc P t = some m) {av : AV} {ob : Objs} (he : eff st id m = some (av, ob)) :
    ∃ E' v, E.Le E' ∧ Good w0 D0 E' ∧ E'.objs = ob ∧ (Instr.alloc t true (.tuple #[])).run P w = .ok v E'.w ∧ AvRep E' av v := by
  have ew := hE.ew
  have eo := hE.eo
  unfold compAlloc at hc
  split at hc
  · rename_i z hz
    split at hc
    · rename_i zs hzs
      simp only [Option.some.injEq] at hc; subst hc
      simp only [eff] at he
      split at he
      · rename_i hlen
        simp only [Option.some.injEq, Prod.mk.injEq] at he
        obtain ⟨rfl, rfl⟩ := he
        obtain ⟨E1, le1, g1, w1, o1, r1, one1, oth1⟩ := zcells_rep hE.good (id := id + 1) (zs := zipSz zs (cellSz P 6 t)) (fun k hk => by rw [eo, Nat.add_assoc]; exact hf (1 + k) (by omega)) (vs := z.cells.toList) (by rw [zipSz_fst]; exact hzs)
        obtain ⟨E2, le2, g2, w2, o2, r2⟩ := mk_box g1 (id := id) (by rw [oth1 id (by omega), eo]; exact hf 0 (by omega)) r1 one1 t
        have hrun : (zeroValue t).run P w = .ok z w := zero_run hz
        refine ⟨E2, .pointer (some ⟨w.heap.size, 0, none⟩), le1.trans le2, g2, by rw [o2, o1, eo], ?_, ?_⟩
        · rw [w2, w1, ew]
          simp [Instr.alloc, hrun, newVar, newRow]
        · have e : E1.w.heap.size = w.heap.size := by rw [w1, ew]
          rw [e] at r2
          exact r2
      · cases he
    · cases hc
  · cases hc

theorem eff_asg (hE : SimE N w0 D0 E st a w) {id : Nat} (hf : st.objs id = none) {ty : TypeId} {p : Operand} {m : FO} (hc : compAsgN P ty p = some m) {av : AV} {ob : Objs} (he : eff st id m = some (av, ob)) :
    ∃ E', E.Le E' ∧ Good w0 D0 E' ∧ E'.objs = ob ∧ E'.w = w ∧ AvRep E' av (a.eval p) := by
  unfold compAsgN at hc
  split at hc
  · split at hc
    · split at hc
      · obtain ⟨sz, hsz, rfl⟩ := Option.map_eq_some_iff.1 hc
        simp only [eff, Option.some.injEq, Prod.mk.injEq] at he
        obtain ⟨rfl, rfl⟩ := he
        obtain ⟨E1, le1, g1, w1, o1, r1⟩ := mk_nil hE.good (id := id) (sz := sz) (by rw [hE.eo]; exact hf) none
        exact ⟨E1, le1, g1, by rw [o1, hE.eo], by rw [w1, hE.ew], r1⟩
      · cases hc
    · cases hc
  · cases hc

theorem isZero_eval {p : Option Operand} (h : isZero p = true) : ∃ q k, p = some q ∧ a.eval q = .int k 0 := by
  unfold isZero at h
  split at h
  · exact ⟨_, _, rfl, rfl⟩
  · cases h

theorem eff_slc3 (hE : SimE N w0 D0 E st a w) {id : Nat} (hf : st.objs id = none) {t : TypeId} {p : Operand} {lo hi mx : Option Operand} {m : FO} (hc : compSlc3 P t p lo hi mx = some m) {av : AV} {ob : Objs} (he : eff st id m = some (av, ob)) :
    ∃ E' v, E.Le E' ∧ Good w0 D0 E' ∧ E'.objs = ob ∧ E'.w = w ∧ (Instr.sliceAt t (a.eval p) (lo.map a.eval) (hi.map a.eval) (mx.map a.eval)).run P w = .ok v w ∧ AvRep E' av v := by
  have eo := hE.eo
  have ew := hE.ew
  unfold compSlc3 at hc
  split at hc
  · rename_i hz
    simp only [Bool.and_eq_true, Bool.or_eq_true] at hz
    obtain ⟨⟨hlo, hhi⟩, hmx⟩ := hz
    split at hc
    · rename_i x e hx ht
      obtain ⟨sz, hsz, rfl⟩ := Option.map_eq_some_iff.1 hc
      have hg := get_rep hE hx
      have hsl : (∃ ad n c, a.eval p = .slice ad n c) ∧ av = .sl id 0 0 ∧ ob = upd st.objs id (some (.row true sz [])) := by
        simp only [eff] at he
        split at he
        · rename_i r off len hq
          split at he
          · rename_i own sz' L ho
            simp only [Option.some.injEq, Prod.mk.injEq] at he
            obtain ⟨rfl, rfl⟩ := he
            rw [hq] at hg
            generalize a.eval p = z at hg ⊢
            cases hg with
            | sl hr h =>
              obtain ⟨_, hat⟩ := h _ _ _ (by rw [eo]; exact ho)
              unfold SlAt at hat
              split at hat
              · obtain ⟨⟨ad, rfl⟩, _⟩ := hat
                exact ⟨⟨_, _, _, rfl⟩, rfl, rfl⟩
              · obtain ⟨ad, c, rfl, _⟩ := hat
                exact ⟨⟨_, _, _, rfl⟩, rfl, rfl⟩
          · cases he
        · split at he
          · rename_i src sz' L hv
            simp only [Option.some.injEq, Prod.mk.injEq] at he
            obtain ⟨rfl, rfl⟩ := he
            have hr := (view_rep hE hg hv).1
            generalize a.eval p = z at hr ⊢
            cases hr with
            | nil => exact ⟨⟨_, _, _, rfl⟩, rfl, rfl⟩
            | slro => exact ⟨⟨_, _, _, rfl⟩, rfl, rfl⟩
          · cases he
      obtain ⟨⟨ad, n, c, hp⟩, rfl, rfl⟩ := hsl
      obtain ⟨q1, k1, rfl, h1⟩ := isZero_eval (a := a) hhi
      obtain ⟨q2, k2, rfl, h2⟩ := isZero_eval (a := a) hmx
      have hb : (Instr.sliceBounds true n c (lo.map a.eval) (some (a.eval q1)) (some (a.eval q2))).run P w = .ok (0, 0, 0) w := by
        rcases hlo with hlo | hlo
        · cases lo with
          | none => simp [Instr.sliceBounds, Instr.sliceBound, h1, h2, asIntOf]
          | some q => simp at hlo
        · obtain ⟨q3, k3, rfl, h3⟩ := isZero_eval (a := a) hlo
          simp [Instr.sliceBounds, Instr.sliceBound, h1, h2, h3, asIntOf]
      obtain ⟨E1, le1, g1, w1, o1, r1⟩ := mk_nil hE.good (id := id) (sz := sz) (by rw [eo]; exact hf) ad
      refine ⟨E1, .slice ad 0 0, le1, g1, by rw [o1, eo], by rw [w1, ew], ?_, r1⟩
      simp only [Instr.sliceAt, Sem.run_bind, run_under ht, Result.andThen_ok, Instr.slice, hp, Option.map_some, hb, run_sizeOf' hsz, if_true, Sem.run_pure, Nat.sub_self]
    · cases hc
  · cases hc

theorem compParts_rep (hE : SimE N w0 D0 E st a w) : ∀ {ps : List (Nat × Operand)} {i : Nat} {xs : List X}, compParts ps i = some xs → AvReps E (xs.map st.get) (ps.map fun p => a.eval p.2) ∧ (∀ k p, ps[k]? = some p → p.1 = i + k) ∧ xs.length = ps.length
  | [], i, xs, h => by
    simp only [compParts, Option.some.injEq] at h
    subst h
    exact ⟨.nil, by simp, rfl⟩
  | (k, p) :: ps, i, xs, h => by
    simp only [compParts] at h
    split at h
    · rename_i hk
      split at h
      · rename_i x ys hx hy
        simp only [Option.some.injEq] at h
        subst h
        obtain ⟨h1, h2, h3⟩ := compParts_rep hE hy
        refine ⟨.cons (get_rep hE hx) h1, ?_, by simp [h3]⟩
        intro j q hj
        cases j with
        | zero => simp at hj; subst hj; exact hk
        | succ j =>
          simp at hj
          have := h2 j q hj
          omega
      · cases h
    · cases h

theorem elem_cells_one (hg : Good w0 D0 E) : ∀ {cs : List AV} {o1 o2 : Objs} (hd : Dies E.objs o1) {xs : List Value} (h : AvReps E cs xs) {L : List V} {fl : Bool} (ha : elems o1 cs = some (L, fl, o2)) {i : Nat} {y : V}, L[i]? = some y → ∀ c ∈ y.cells, V.one c = true
  | [], o1, o2, hd, xs, h, L, fl, ha, i, y, hi => by
    simp only [elems, Option.some.injEq, Prod.mk.injEq] at ha
    obtain ⟨rfl, rfl, rfl⟩ := ha
    simp at hi
  | c :: cs, o1, o2, hd, _, .cons h hs, L, fl, ha, i, y, hi => by
    simp only [elems] at ha
    split at ha
    · rename_i v f o3 h1
      split at ha
      · rename_i vs f' o4 h2
        simp only [Option.some.injEq, Prod.mk.injEq] at ha
        obtain ⟨rfl, rfl, rfl⟩ := ha
        obtain ⟨d1, T1, r1, b1, e1⟩ := elem_rep hg hd h h1
        cases i with
        | zero =>
          simp at hi; subst hi
          exact r1.cells.2
        | succ i =>
          simp at hi
          exact elem_cells_one hg (hd.trans d1) hs h2 hi
      · cases ha
    · cases ha

theorem eff_bsl (hE : SimE N w0 D0 E st a w) {id : Nat} (hf : st.objs id = none) {t n : Nat} {ps : Array (Nat × Operand)} {m : FO} (hc : compBsl P t n ps.toList = some m) {av : AV} {ob : Objs} (he : eff st id m = some (av, ob)) :
    ∃ E' v, E.Le E' ∧ Good w0 D0 E' ∧ E'.objs = ob ∧ (Instr.buildSlice t n (ps.map fun (i, x) => (i, a.eval x))).run P w = .ok v E'.w ∧ AvRep E' av v := by
  have eo := hE.eo
  have ew := hE.ew
  unfold compBsl at hc
  split at hc
  · rename_i e ht
    split at hc
    · rename_i sz z xs hsz hz hxs
      split at hc
      · rename_i hcond
        obtain ⟨hn, hbig, hzs, hnn⟩ := hcond
        simp only [Option.some.injEq] at hc; subst hc
        simp only [eff] at he
        split at he
        · rename_i L fl o2 hel
          split at he
          · rename_i hall
            simp only [Option.some.injEq, Prod.mk.injEq] at he
            obtain ⟨rfl, rfl⟩ := he
            obtain ⟨hreps, hidx, hlen⟩ := compParts_rep hE hxs
            have hel' : elems E.objs (xs.map st.get) = some (L, fl, o2) := by rw [eo]; exact hel
            obtain ⟨hd, hl, hcs, T, hR, hT⟩ := elems_rep hE.good (Dies.refl _) hreps hel'
            have hLn : L.length = n := by rw [hl]; simp [hn]
            have hone : ∀ c ∈ L.flatMap V.cells, V.one c = true := by
              intro c hcm
              obtain ⟨y, hy, hcy⟩ := List.mem_flatMap.1 hcm
              obtain ⟨i, hi⟩ := List.mem_iff_getElem?.1 hy
              have hi2 : i < (ps.toList.map fun p => a.eval p.2).length := by
                rw [← hl]
                rcases Nat.lt_or_ge i L.length with h | h
                · exact h
                · rw [List.getElem?_eq_none h] at hi; cases hi
              exact elem_cells_one hE.good (Dies.refl _) hreps hel' hi c hcy
            have hU : Uni sz L := by
              intro y hy
              refine ⟨by simpa using List.all_eq_true.1 hall y hy, fun c hcy => hone c (List.mem_flatMap.2 ⟨y, hy, hcy⟩)⟩
            have hcells : (ps.toList.map fun p => a.eval p.2).flatMap (fun x => x.cells.toList) = (ps.toList.map fun p => ((p.1, a.eval p.2) : Nat × Value)).flatMap fun p => p.2.cells.toList := by
              simp [List.flatMap_map]
            have hpsz : ∀ k p, (ps.toList.map fun p => ((p.1, a.eval p.2) : Nat × Value))[k]? = some p → p.1 = 0 + k ∧ p.2.cells.size = sz := by
              intro k p hp
              simp only [List.getElem?_map, Option.map_eq_some_iff] at hp
              obtain ⟨q, hq, rfl⟩ := hp
              refine ⟨by have := hidx k q hq; simpa using this, ?_⟩
              have hk : k < L.length := by
                rw [hl]; simp
                rcases Nat.lt_or_ge k ps.toList.length with h | h
                · simpa using h
                · rw [List.getElem?_eq_none h] at hq; cases hq
              have := hcs k L[k] (a.eval q.2) (List.getElem?_eq_getElem hk) (by simp only [List.getElem?_map, hq, Option.map_some])
              rw [← this]
              simpa using List.all_eq_true.1 hall L[k] (List.getElem_mem hk)
            have hfill := fill_parts (size := sz) (ps.toList.map fun p => ((p.1, a.eval p.2) : Nat × Value)) 0 ((Array.range (n * sz)).map ((if n * sz = 0 then #[] else z.cells)[· % (if n * sz = 0 then #[] else z.cells).size]!)) [] hpsz (by simp) (by simp [hn]) (by simp)
            simp only [List.nil_append] at hfill
            have hzr : (zeroValue e).run P w = .ok z w := by
              unfold zeroOf at hz
              cases hi : P.info? e with
              | none => rw [hi] at hz; simp at hz
              | some i => rw [hi] at hz; simp at hz; simp [zeroValue, typeInfo, hi, hz]
            have hvl : ((ps.toList.map fun p => a.eval p.2).flatMap fun x => x.cells.toList).length = n * sz := by
              rw [← hR.length, hU.flat_length, hLn]
            obtain ⟨E', le, g, hw, ho, hr⟩ := mk_row hE.good hd (id := id) (by rw [eo]; exact hf) (sz := sz) (fl := fl) (L := L) (w' := E.w.alloc (.cells ((ps.toList.map fun p => ((p.1, a.eval p.2) : Nat × Value)).flatMap fun p => p.2.cells.toList).toArray e))
              (cur := ((ps.toList.map fun p => ((p.1, a.eval p.2) : Nat × Value)).flatMap fun p => p.2.cells.toList).toArray) (e := e) (c := n)
              hR (fun _ q hq => hT q hq) hU (.inl rfl) (by
                intro j u hj
                rw [hcells] at hj
                simpa using hj) (Reps.ones hR hone) (by omega) (by
                  simp only [maxLen]
                  omega) (by
                intro _
                rw [hcells] at hvl
                simp only [List.size_toArray]
                omega)
            refine ⟨E', .slice (some ⟨E.w.heap.size, 0, none⟩) L.length n, le, g, ho, ?_, hr⟩
            rw [hw, ew, hLn]
            have hbig' : ¬ (2 ^ 24 < n * sz) := by omega
            have hmap : (ps.map fun (i, x) => (i, a.eval x)).toList = (ps.toList.map fun p => ((p.1, a.eval p.2) : Nat × Value)) := by simp
            by_cases hn0 : n * sz = 0
            · simp only [hn0, if_true] at hfill
              have hb0 : ¬ (2 ^ 24 < 0) := by omega
              simp only [Instr.buildSlice, Sem.run_bind, run_under ht, Result.andThen_ok, run_sizeOf' hsz, gt_iff_lt, hn0, hb0, if_false, if_true, Sem.run_pure, hmap, hfill]
              simp [newRow]
            · rw [if_neg hn0] at hfill
              simp only [Instr.buildSlice, Sem.run_bind, run_under ht, Result.andThen_ok, run_sizeOf' hsz, gt_iff_lt, hbig', if_false, hn0, hzr, Sem.run_pure, hmap, hfill]
              simp [newRow]
          · cases he
        · cases he
      · cases hc
    · cases hc
  · cases hc
end
end Go.Ab
