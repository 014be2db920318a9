/- Operations that make memory: variables, literals, make (own framework). -/
import Derived.Test.YthcojmhjnbebdaaDoorA7
import Derived.Laws.MakeOwn
set_option linter.unusedVariables false
set_option linter.unusedSimpArgs false
namespace Go.Ab
open Go.RowKit

inductive FO where
  | box (x : X)
  | alloc (zs : List (V × Nat × Bool))
  | bld (zs : List (V × Nat × Bool)) (ps : List (Nat × Nat × X))
  | nilrow (sz : Nat)
  | nilof (x : X) (sz : Nat)
  | bsl (sz : Nat) (xs : List X)
  | bslp (sz : Nat) (xs : List X)
  | mks (sz bytes : Nat) (z : V) (l c : X)
  | app (x y : X) (sz bytes : Nat) (mv : Bool)
  | st (x v : X) (n : Nat)
  | clr (x : X) (z : V) (sz : Nat)
  | mkm
  | mpu (kd : Nat) (x k v : X)
  | men (kd : Nat) (x k : X) (z : Sc)
  | mes (x s v : X)
  deriving Inhabited

/-- The zeros of a new struct: each nil slice a root; what is covered at once needs none. -/
def zc1 (id : Nat) (o : Objs) : V × Nat × Bool → AV × Objs × Nat
  | (_, _, true) => (.bad, o, id)
  | (v, sz, false) => match v with
    | .sl 0 [] => (.sl id 0 0, upd o id (some (.row true sz [])), id + 1)
    | v => (.val none v, o, id)
def zcells (id : Nat) (o : Objs) : List (V × Nat × Bool) → List AV × Objs
  | [] => ([], o)
  | z :: zs => let p := zc1 id o z; let r := zcells p.2.2 p.2.1 zs; (p.1 :: r.1, r.2)

/-- Elements that use up nothing. -/
def elemP : AV → Option (V × Bool)
  | .val none v => some (v, v.plain)
  | .agg cs => match roL cs with
    | some vs => some (.agg vs, vs.all V.scalar)
    | none => none
  | _ => none
def elemsP : List AV → Option (List V × Bool)
  | [] => some ([], true)
  | c :: cs => match elemP c, elemsP cs with
    | some (v, f), some (vs, f') => some (v :: vs, f && f')
    | _, _ => none
theorem absorbL_ro : ∀ {cs : List AV} {vs : List V} (h : roL cs = some vs) (o : Objs), absorbL o cs = if vs.all V.scalar = true then some (vs, o) else none
  | [], vs, h, o => by simp only [roL, Option.some.injEq] at h; subst h; rfl
  | .val none v :: cs, vs, h, o => by
    simp only [roL] at h
    split at h
    · split at h
      · rename_i ws hws
        simp only [Option.some.injEq] at h; subst h
        simp only [absorbL, absorb1]
        by_cases hv : v.scalar = true
        · simp only [hv, if_true, absorbL_ro hws o, List.all_cons, Bool.true_and]
          by_cases ha : ws.all V.scalar = true
          · simp [ha]
          · simp [ha]
        · simp [hv]
      · cases h
    · cases h
  | .val (some _) _ :: _, vs, h, o => by simp [roL] at h
  | .sl _ _ _ :: _, vs, h, o => by simp [roL] at h
  | .ptr _ _ _ :: _, vs, h, o => by simp [roL] at h
  | .agg _ :: _, vs, h, o => by simp [roL] at h
  | .tup _ :: _, vs, h, o => by simp [roL] at h
  | .fn _ _ :: _, vs, h, o => by simp [roL] at h
  | .bad :: _, vs, h, o => by simp [roL] at h
  | .ub :: _, vs, h, o => by simp [roL] at h
  | .mp _ :: _, vs, h, o => by simp [roL] at h
theorem elemP_elem {c : AV} {v : V} {f : Bool} (h : elemP c = some (v, f)) (o : Objs) : elem o c = some (v, f, o) := by
  unfold elemP at h
  split at h
  · rename_i u
    simp only [Option.some.injEq, Prod.mk.injEq] at h
    obtain ⟨rfl, rfl⟩ := h
    unfold elem absorb
    by_cases hp : u.plain = true
    · simp [hp]
    · simp [hp, roMode]
  · split at h
    · rename_i cs vs hr
      simp only [Option.some.injEq, Prod.mk.injEq] at h
      obtain ⟨rfl, rfl⟩ := h
      unfold elem absorb
      simp only [absorbL_ro hr o]
      by_cases ha : vs.all V.scalar = true
      · simp [ha]
      · simp [ha, roMode, hr]
    · cases h
  · cases h

def elems (o : Objs) : List AV → Option (List V × Bool × Objs)
  | [] => some ([], true, o)
  | c :: cs => match elem o c with
    | some (v, f, o1) => match elems o1 cs with
      | some (vs, f', o2) => some (v :: vs, f && f', o2)
      | none => none
    | none => none

theorem elemsP_elems : ∀ {cs : List AV} {vs : List V} {f : Bool} (h : elemsP cs = some (vs, f)) (o : Objs), elems o cs = some (vs, f, o)
  | [], vs, f, h, o => by
    simp only [elemsP, Option.some.injEq, Prod.mk.injEq] at h
    obtain ⟨rfl, rfl⟩ := h
    rfl
  | c :: cs, vs, f, h, o => by
    simp only [elemsP] at h
    split at h
    · rename_i h1 h2
      simp only [Option.some.injEq, Prod.mk.injEq] at h
      obtain ⟨rfl, rfl⟩ := h
      simp only [elems, elemP_elem h1 o, elemsP_elems h2 o]
    · cases h

section
variable {P : Program} {N : Fr} {w0 : Base} {D0 : BSet} {E : Env} {st : St} {a : Act} {w : World}

/-- What is asked of an operation that makes or changes memory. -/
def Out (P : Program) (w0 : Base) (D0 : BSet) (E : Env) (a : Act) (w : World) (o : Oper) (av : AV) (ob : Objs) : Prop :=
  ∃ w' E', E.Le E' ∧ Good w0 D0 E' ∧ E'.w = w' ∧ E'.objs = ob ∧
    ((∃ v, (execOp a.eval o).run P w = .ok (.value v) w' ∧ AvRep E' av v) ∨ ((execOp a.eval o).run P w = .ok .skip w' ∧ av = .undef))

theorem Env.Le.trans {E1 E2 E3 : Env} (h1 : E1.Le E2) (h2 : E2.Le E3) : E1.Le E3 := by
  refine ⟨fun g hg => ⟨(h2.d g (h1.d g hg).1).1, (h2.d g (h1.d g hg).1).2.trans (h1.d g hg).2⟩, fun r hr => h2.known r (h1.known r hr), ?_⟩
  intro r hr o' ho' hnd
  obtain ⟨o2, ho2, hl2, hS2, hsh2, hb2⟩ := h2.old r (h1.known r hr) o' ho' hnd
  have hnd2 : o2 ≠ .dead := by rintro rfl; cases o' <;> exact hsh2.elim
  obtain ⟨o1, ho1, hl1, hS1, hsh1, hb1⟩ := h1.old r hr o2 ho2 hnd2
  refine ⟨o1, ho1, hl2.trans hl1, ?_, ?_, ?_⟩
  · intro g hg
    obtain ⟨q1, q2⟩ := hS1 g hg
    rcases q1 with q1 | q1
    · exact ⟨(hS2 g q1).1, (hS2 g q1).2.trans q2⟩
    · exact ⟨.inr (h2.d g q1).1, (h2.d g q1).2.trans q2⟩
  · cases o1 <;> cases o2 <;> cases o' <;> simp_all
  · intro g q hq cur e hc
    obtain ⟨cur2, e2, hc2, hs2⟩ := hb1 g q hq cur e hc
    obtain ⟨cur3, e3, hc3, hs3⟩ := hb2 g q (hl1.trans hq) cur2 e2 hc2
    exact ⟨cur3, e3, hc3, hs3.trans hs2⟩

theorem heap_new (w : World) (o : Obj) : (w.alloc o).heap[w.heap.size]? = some o := heap_alloc_new w o
theorem below_alloc' (w : World) (o : Obj) : Below w.heap.size w (w.alloc o) := (Below.refl _ _).alloc (Nat.le_refl _) o
theorem below_drew' (w : World) : Below w.heap.size w w.drew := (Below.refl _ _).drew

/-- An empty row, nowhere. -/
theorem mk_nil (hg : Good w0 D0 E) {id sz : Nat} (hf : E.objs id = none) (ad : Option Addr) :
    ∃ E', E.Le E' ∧ Good w0 D0 E' ∧ E'.w = E.w ∧ E'.objs = upd E.objs id (some (.row true sz [])) ∧ AvRep E' (.sl id 0 0) (.slice ad 0 0) := by
  have hm : MkOk w0 E E.objs E.w E.D id none Emp := ⟨Dies.refl _, hf, fun g h => h, fun g h => .inl h, (fun g h => by rcases h with h | ⟨q, h⟩ <;> cases h), (fun g q h => by cases h), .inl (Below.refl _ _)⟩
  refine ⟨E.mkr E.objs E.w E.D id (.row true sz []) none Emp, mkr_le hg hm, mkr_good hg hm (by simp [RootRep, Env.mkr, upd_same]), rfl, rfl, .sl (by simp [Env.mkr, upd_same]) ?_⟩
  intro own sz' L ho
  simp only [Env.mkr, upd_same, Option.some.injEq, Root.row.injEq] at ho
  obtain ⟨rfl, rfl, rfl⟩ := ho
  exact ⟨by simp, by simp [SlAt, Env.mkr, upd_same]⟩

/-- A new variable. -/
theorem mk_box (hg : Good w0 D0 E) {id : Nat} (hf : E.objs id = none) {cs : List AV} {vs : List Value} (h : AvReps E cs vs) (h1 : ∀ v ∈ vs, v.oneCell' = true) (e : TypeId) :
    ∃ E', E.Le E' ∧ Good w0 D0 E' ∧ E'.w = E.w.alloc (.cells vs.toArray e) ∧ E'.objs = upd E.objs id (some (.box cs)) ∧ AvRep E' (.ptr id 0 0) (.pointer (some ⟨E.w.heap.size, 0, none⟩)) := by
  have hm : MkOk w0 E E.objs (E.w.alloc (.cells vs.toArray e)) E.D id (some (E.w.heap.size, 0)) Emp :=
    ⟨Dies.refl _, hf, fun g h => h, fun g h => .inl h, (fun g h => by
      rcases h with h | ⟨q, h⟩
      · cases h
      · simp only [Option.some.injEq, Prod.mk.injEq] at h
        obtain ⟨rfl, rfl⟩ := h
        exact ⟨.inr (fresh_new hg (Nat.le_refl _)), by simp, fun hd => Nat.lt_irrefl _ (hg.dIn _ hd).1⟩), (fun g q _ h => h), .inl (below_alloc' _ _)⟩
  have hle := mkr_le (ob := .box cs) hg hm
  refine ⟨E.mkr E.objs (E.w.alloc (.cells vs.toArray e)) E.D id (.box cs) (some (E.w.heap.size, 0)) Emp, hle, mkr_good hg hm ?_, rfl, rfl, .ptrRow (by simp [Env.mkr, upd_same]) ?_ ?_⟩
  · exact ⟨E.w.heap.size, vs.toArray, e, by simp [Env.mkr, upd_same], heap_new _ _, by simpa using h.le hle, by simpa using h1⟩
  · intro own sz L ho
    simp only [Env.mkr, upd_same, Option.some.injEq] at ho
    cases ho
  · intro cs' ho
    exact ⟨rfl, E.w.heap.size, by simp [Env.mkr, upd_same], rfl⟩

/-- A new row. -/
theorem mk_row (hg : Good w0 D0 E) {o2 : Objs} (hd : Dies E.objs o2) {id sz : Nat} (hf : E.objs id = none) {fl : Bool} {L : List V} {vs : List Value} {T : BSet}
    (h : Reps E.w (fun g => E.D g ∨ (fl = false ∧ Gone E o2 g)) fl (L.flatMap V.cells) vs T) (hT : fl = true → ∀ g, T g → Gone E o2 g) (hu : Uni sz L) {w' : World} {cur : Array Value} {e : TypeId}
    (hw : w' = E.w.alloc (.cells cur e) ∨ w' = E.w.drew.alloc (.cells cur e)) (hc : ∀ (j : Nat) (u : Value), vs[j]? = some u → cur[j]? = some u) (h1 : ∀ v ∈ vs, v.oneCell' = true) {c : Nat} (hlc : L.length ≤ c) (hm : c ≤ maxLen) (hs : c ≠ 0 → c * sz ≤ cur.size) :
    ∃ E', E.Le E' ∧ Good w0 D0 E' ∧ E'.w = w' ∧ E'.objs = upd o2 id (some (.row fl sz L)) ∧ AvRep E' (.sl id 0 L.length) (.slice (some ⟨E.w.heap.size, 0, none⟩) L.length c) := by
  have hsize : w'.heap.size = E.w.heap.size + 1 := by rcases hw with rfl | rfl <;> simp
  have hnew : w'.heap[E.w.heap.size]? = some (.cells cur e (0, 0)) := by
    rcases hw with rfl | rfl
    · exact heap_new _ _
    · exact heap_new E.w.drew _
  have hbel : Below E.w.heap.size E.w w' := by
    rcases hw with rfl | rfl
    · exact below_alloc' _ _
    · exact (below_drew' _).alloc (Nat.le_refl _) _
  have hm' : MkOk w0 E o2 w' (fun g => E.D g ∨ (fl = false ∧ Gone E o2 g)) id (some (E.w.heap.size, 0)) (fun g => fl = true ∧ T g) := by
    refine ⟨hd, hf, fun g h => .inl h, ?_, ?_, ?_, .inl hbel⟩
    · rintro g (h | ⟨_, h⟩)
      · exact .inl h
      · exact .inr (.inl h)
    · intro g hgo
      rcases hgo with ⟨hfl, ht⟩ | ⟨q, hq⟩
      · have hgone := hT hfl g ht
        obtain ⟨r, hl, _, ho⟩ := hgone
        obtain ⟨q1, q2, q3⟩ := hg.ownIn r hl g ho
        refine ⟨.inl (hT hfl g ht), by omega, ?_⟩
        rintro (h | ⟨h, _⟩)
        · exact q3 h
        · rw [hfl] at h; cases h
      · simp only [Option.some.injEq, Prod.mk.injEq] at hq
        obtain ⟨rfl, rfl⟩ := hq
        refine ⟨.inr (fresh_new hg (Nat.le_refl _)), by omega, ?_⟩
        rintro (h | ⟨_, r, hl, _, ho⟩)
        · exact Nat.lt_irrefl _ (hg.dIn _ h).1
        · exact Nat.lt_irrefl _ (hg.ownIn r hl _ ho).2.1
    · intro g q hq ⟨hfl, ht⟩
      simp only [Option.some.injEq, Prod.mk.injEq] at hq
      obtain ⟨rfl, rfl⟩ := hq
      obtain ⟨r, hl, _, ho⟩ := hT hfl _ ht
      exact Nat.lt_irrefl _ (hg.ownIn r hl _ ho).2.1
  obtain ⟨hsz2, _, hkD, hkO⟩ := mkr_keep hg hm'
  refine ⟨E.mkr o2 w' _ id (.row fl sz L) (some (E.w.heap.size, 0)) _, mkr_le hg hm', mkr_good hg hm' ?_, rfl, rfl, .sl (by simp [Env.mkr, upd_same]) ?_⟩
  · simp only [RootRep, Env.mkr, upd_same]
    refine ⟨vs, ⟨cur, e, hnew, fun j u hj => by rw [Nat.zero_add]; exact hc j u hj⟩, hu, ?_⟩
    have hk : ∀ g, g < E.w.heap.size → w'.heap[g]? = E.w.heap[g]? := fun g hg' => hbel.block g hg'
    have h' : Reps w' (fun g => E.D g ∨ (fl = false ∧ Gone E o2 g)) fl (L.flatMap V.cells) vs T := by
      refine h.keep ?_ ?_
      · rintro g (hg' | ⟨hf', hg'⟩)
        · exact ⟨.inl hg', hk g (hg.dIn g hg').1⟩
        · obtain ⟨r, hl, hdd, ho⟩ := hg'
          exact ⟨.inr ⟨hf', r, hl, hdd, ho⟩, hk g (hg.ownIn r hl g ho).2.1⟩
      · intro hfl g ht
        obtain ⟨r, hl, hdd, ho⟩ := hT hfl g ht
        exact hk g (hg.ownIn r hl g ho).2.1
    cases fl with
    | true => exact h'.wide (fun g hg' => ⟨rfl, hg'⟩)
    | false => exact h'.ro
  · intro own sz' L' ho
    simp only [Env.mkr, upd_same, Option.some.injEq, Root.row.injEq] at ho
    obtain ⟨rfl, rfl, rfl⟩ := ho
    refine ⟨by simp, ?_⟩
    simp only [SlAt, Env.mkr, upd_same]
    exact ⟨_, c, rfl, hlc, hm, fun _ => by simp, fun _ => .inr ⟨0, rfl⟩, by omega, cur, e, hnew, fun hne => by simpa using hs hne⟩

theorem elems_rep (hg : Good w0 D0 E) : ∀ {cs : List AV} {o1 o2 : Objs} (hd : Dies E.objs o1) {xs : List Value} (h : AvReps E cs xs) {L : List V} {fl : Bool} (ha : elems o1 cs = some (L, fl, o2)),
    Dies o1 o2 ∧ L.length = xs.length ∧ (∀ (i : Nat) (v : V) (x : Value), L[i]? = some v → xs[i]? = some x → v.cells.length = x.cells.size) ∧
    ∃ T, Reps E.w (fun g => E.D g ∨ (fl = false ∧ Between E o1 o2 g)) fl (L.flatMap V.cells) (xs.flatMap fun x => x.cells.toList) T ∧ (∀ g, T g → Between E o1 o2 g)
  | [], o1, o2, hd, xs, h, L, fl, ha => by
    simp only [elems, Option.some.injEq, Prod.mk.injEq] at ha
    obtain ⟨rfl, rfl, rfl⟩ := ha
    cases h
    exact ⟨Dies.refl _, rfl, by simp, Emp, by simpa using Reps.nil, fun _ h => h.elim⟩
  | c :: cs, o1, o2, hd, _, .cons (v := x) (vs := xs) h hs, L, fl, ha => by
    simp only [elems] at ha
    split at ha
    · rename_i v f o3 h1
      split at ha
      · rename_i vs f' o4 h2
        simp only [Option.some.injEq, Prod.mk.injEq] at ha
        obtain ⟨rfl, rfl, rfl⟩ := ha
        obtain ⟨d1, T1, r1, b1, e1⟩ := elem_rep hg hd h h1
        obtain ⟨d2, hlen, hsz, T2, r2, b2⟩ := elems_rep hg (hd.trans d1) hs h2
        have up1 : ∀ g, Between E o1 o3 g → Between E o1 o4 g := by
          rintro g ⟨r, l, hdd, ho⟩
          refine ⟨r, l, ?_, ho⟩
          rcases d2 r with e | ⟨e, _⟩
          · rw [e]; exact hdd
          · exact e
        have up2 : ∀ g, Between E o3 o4 g → Between E o1 o4 g := by
          rintro g ⟨r, l, hdd, ho⟩
          exact ⟨r, (d1.live l).2, hdd, ho⟩
        have c1 := r1.cells.1
        refine ⟨d1.trans d2, by simp [hlen], ?_, ?_⟩
        · intro i v' x' hv hx
          cases i with
          | zero =>
            simp at hv hx
            subst hv; subst hx
            have := c1.length
            simpa using this
          | succ i =>
            simp at hv hx
            exact hsz i v' x' hv hx
        · cases f with
          | true =>
            cases f' with
            | true =>
              refine ⟨fun g => T1 g ∨ T2 g, ?_, ?_⟩
              · simp only [List.flatMap_cons]
                refine Reps.append (c1.keep (D' := fun g => E.D g ∨ ((true && true) = false ∧ Between E o1 o4 g)) (fun g hg' => ⟨.inl hg', rfl⟩) (fun _ _ _ => rfl)) (r2.keep (D' := fun g => E.D g ∨ ((true && true) = false ∧ Between E o1 o4 g)) (fun g hg' => ⟨hg'.imp id (fun h => by simp at h), rfl⟩) (fun _ _ _ => rfl)) ?_ (fun g h => .inl h) (fun g h => .inr h)
                intro g t1 t2
                obtain ⟨r, l, hdd, ho⟩ := b1 g t1
                obtain ⟨r', l', hdd', ho'⟩ := b2 g t2
                by_cases e : r = r'
                · subst e; rw [hdd] at l'; cases l'
                · exact hg.apart r r' e (hd.live l).2 (hd.live (d1.live l').2).2 g ho ho'
              · rintro g (t | t)
                · exact up1 g (b1 g t)
                · exact up2 g (b2 g t)
            | false =>
              refine ⟨Emp, ?_, fun _ h => h.elim⟩
              rw [List.flatMap_cons, List.flatMap_cons]
              change Reps E.w (fun g => E.D g ∨ (false = false ∧ Between E o1 o4 g)) false _ _ Emp
              refine Reps.append (S1 := Emp) (S2 := Emp) (Reps.lend (D' := fun g => E.D g ∨ (false = false ∧ Between E o1 o4 g)) (fun g hg' => .inl hg') c1 (fun _ g t => .inr ⟨rfl, up1 g (b1 g t)⟩)) ?_ (fun _ h => h.elim) (fun _ h => h) (fun _ h => h)
              exact (r2.keep (D' := fun g => E.D g ∨ (false = false ∧ Between E o1 o4 g)) (fun g hg' => ⟨hg'.imp id (fun h => ⟨rfl, up2 g h.2⟩), rfl⟩) (fun h => by cases h)).ro
          | false =>
            have e3 := e1 rfl
            subst e3
            refine ⟨Emp, ?_, fun _ h => h.elim⟩
            rw [List.flatMap_cons, List.flatMap_cons]
            change Reps E.w (fun g => E.D g ∨ (false = false ∧ Between E o3 o4 g)) false _ _ Emp
            refine Reps.append (S1 := Emp) (S2 := Emp) ((c1.keep (D' := fun g => E.D g ∨ (false = false ∧ Between E o3 o4 g)) (fun g hg' => ⟨.inl hg', rfl⟩) (fun h => by cases h)).ro) ?_ (fun _ h => h.elim) (fun _ h => h) (fun _ h => h)
            cases f' with
            | true => exact Reps.lend (fun g hg' => hg'.imp id (fun h => by simp at h)) r2 (fun _ g t => .inr ⟨rfl, b2 g t⟩)
            | false => exact (r2.keep (D' := fun g => E.D g ∨ (false = false ∧ Between E o3 o4 g)) (fun g hg' => ⟨hg', rfl⟩) (fun h => by cases h)).ro
      · cases ha
    · cases ha
end
end Go.Ab
