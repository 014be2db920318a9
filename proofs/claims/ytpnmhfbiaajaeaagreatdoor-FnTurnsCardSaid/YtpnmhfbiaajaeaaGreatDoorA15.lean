import Derived.Test.YtpnmhfbiaajaeaaGreatDoorA12
set_option linter.unusedVariables false
set_option linter.unusedSimpArgs false
namespace Go.Ab
open Go.RowKit
def srcOf (r : Nat) (o : Objs) (sz : Nat) (mv : Bool) : AV → Option (List V × Bool × Objs)
 | .sl r2 off len => match o r2 with
  | some (.row own2 sz2 L2) =>
   if r2 = r ∨ sz2 ≠ sz then none
   else if mv = true then some ((L2.drop off).take len, own2, upd o r2 (some .dead))
   else if ((L2.drop off).take len).all V.plain = true then some ((L2.drop off).take len, true, o) else none
  | _ => none
 | .val none v => match v with
  | .sl sz2 L2 => if sz2 ≠ sz then none else some (L2, L2.all V.plain, o)
  | _ => none
 | .val (some q) v => match v with
  | .sl sz2 L2 => if sz2 ≠ sz ∨ live (o q) = false ∨ L2.all V.plain = false then none else some (L2, true, o)
  | _ => none
 | _ => none
def appTo (id r off len : Nat) (own : Bool) (L : List V) (o : Objs) (y : AV) (sz bytes : Nat) (mv : Bool) : Option (AV × Objs) :=
 match srcOf r o sz mv y with
 | some (news, fl, o2) =>
  if len + news.length ≤ 9223372036854775807 ∧ (len + news.length) * bytes ≤ 140737488355328 then
   some (.sl id 0 (len + news.length), upd (upd o2 r (some .dead)) id (some (.row (own && fl) sz ((L.drop off).take len ++ news))))
  else none
 | none => none
def inApp (s : St) (r off len : Nat) (own : Bool) (sz : Nat) (L : List V) : AV → Option (AV × Objs)
 | .sl r2 off2 len2 => if r2 = r ∧ 0 < sz ∧ off + len + len2 ≤ L.length ∧ off2 + len2 ≤ L.length ∧ ((L.drop off2).take len2).all V.plain = true then
   some (.sl r off (len + len2), upd s.objs r (some (.row own sz (L.take (off + len) ++ (L.drop off2).take len2 ++ L.drop (off + len + len2))))) else none
 | _ => none
def fillB (s : St) : List (Nat × Nat × X) → List AV → Option (List AV)
 | [], cs => some cs
 | (off, n, x) :: ps, cs => match cellsAV s (s.get x) with
  | some us => if us.length = n ∧ off + n ≤ cs.length then fillB s ps (cs.take off ++ us ++ cs.drop (off + n)) else none
  | none => none
def eff (s : St) (id : Nat) : FO → Option (AV × Objs)
 | .box x => match cellsAV s (s.get x) with
  | some cs => some (.ptr id 0 0, upd s.objs id (some (.box cs)))
  | none => none
 | .alloc zs => if zs.length ≤ 60 then some (.ptr id 0 0, upd (zcells (id + 1) s.objs zs).2 id (some (.box (zcells (id + 1) s.objs zs).1))) else none
 | .bld zs ps => if zs.length ≤ 60 then (match fillB s ps (zcells id s.objs zs).1 with
  | some cs => some (.agg cs, (zcells id s.objs zs).2)
  | none => none) else none
 | .nilrow sz => some (.sl id 0 0, upd s.objs id (some (.row true sz [])))
 | .nilof x sz => match s.get x with
  | .sl r _ _ => match s.objs r with
   | some (.row _ _ _) => some (.sl id 0 0, upd s.objs id (some (.row true sz [])))
   | _ => none
  | y => match s.view y with
   | some (_, .sl _ _) => some (.sl id 0 0, upd s.objs id (some (.row true sz [])))
   | _ => none
 | .bsl sz xs => match elems s.objs (xs.map s.get) with
  | some (L, fl, o2) => if L.all (fun x => x.cells.length == sz) = true then some (.sl id 0 L.length, upd o2 id (some (.row fl sz L))) else none
  | none => none
 | .bslp sz xs => match elemsP (xs.map s.get) with
  | some (L, fl) => if L.all (fun x => x.cells.length == sz) = true then some (.sl id 0 L.length, upd s.objs id (some (.row fl sz L))) else none
  | none => none
 | .mks sz bytes z l c => match asI (s.view (s.get l)), asI (s.view (s.get c)) with
  | some l, some c => if 0 ≤ l ∧ l ≤ c ∧ c ≤ 9223372036854775807 ∧ (bytes : Int) * c ≤ 281474976710656 then some (.sl id 0 l.toNat, upd s.objs id (some (.row true sz (List.replicate l.toNat z)))) else none
  | _, _ => none
 | .app x y sz bytes mv => match x with
  | .c (.sl _ []) => appTo id (id + 1) 0 0 true [] (upd s.objs (id + 1) (some (.row true sz []))) (s.get y) sz bytes mv
  | x => match s.get x with
   | .sl r off len => match s.objs r with
    | some (.row own sz' L) => if sz' = sz then (match appTo id r off len own L s.objs (s.get y) sz bytes mv with
     | some p => some p
     | none => inApp s r off len own sz L (s.get y)) else none
    | _ => none
   | _ => none
 | .mkm => some (.mp id, upd s.objs id (some (.map [])))
 | .bsle _ => some (.e0, s.objs)
 | .app0 x y sz bytes => match s.get x with
  | .e0 => appTo id (id + 1) 0 0 true [] (upd s.objs (id + 1) (some (.row true sz []))) (s.get y) sz bytes false
  | _ => none
 | .mpu kd x k v => match s.get x with
  | .mp r => match s.objs r with
   | some (.map es) => match scOf s (s.get k), scOf s (s.get v) with
    | some a, some b => match mfind kd a es 0 with
     | some q => some (.undef, upd s.objs r (some (.map (mput es a b q))))
     | none => none
    | _, _ => none
   | _ => none
  | _ => none
 | .men kd x k z => match s.get x with
  | .mp r => match s.objs r with
   | some (.map es) => match scOf s (s.get k) with
    | some a => match mfind kd a es 0 with
     | some q => some (.tup [.val none (mentry es a z q).2.2.v, .val none (.int .i64 (mentry es a z q).2.1)], upd s.objs r (some (.map (mentry es a z q).1)))
     | none => none
    | none => none
   | _ => none
  | _ => none
 | .mes x t v => match s.get x with
  | .mp r => match s.objs r with
   | some (.map es) => match asI (s.view (s.get t)), scOf s (s.get v) with
    | some n, some b => if 0 ≤ n then (match es[n.toNat]? with
     | some p => some (.undef, upd s.objs r (some (.map (es.set n.toNat (p.1, b)))))
     | none => none) else none
    | _, _ => none
   | _ => none
  | _ => none
 | .clr x z sz => match s.get x with
  | .sl r off len => match s.objs r with
   | some (.row own sz' L) => if sz' = sz ∧ 0 < sz ∧ off + len ≤ L.length then some (.undef, upd s.objs r (some (.row own sz (L.take off ++ List.replicate len z ++ L.drop (off + len))))) else none
   | _ => none
  | _ => none
 | .st x v n => match s.get x with
  | .ptr r i f => match s.objs r with
   | some (.row own sz L) => match L[i]? with
    | some e => match elem s.objs (s.get v) with
     | some (u, fl, o2) => if live (o2 r) = true ∧ u.cells.length = n ∧ f + n ≤ sz then some (.undef, upd o2 r (some (.row (own && fl) sz (L.set i (patch e f u.cells))))) else none
     | none => none
    | none => none
   | some (.box cs) => match cellsAV s (s.get v) with
    | some us => if us.length = n ∧ f + n ≤ cs.length then some (.undef, upd s.objs r (some (.box (cs.take f ++ us ++ cs.drop (f + n))))) else none
    | none => none
   | _ => none
  | _ => none
def softenF : FO → FO
 | .bsl sz xs => .bslp sz xs
 | m => m
theorem eff_soften {s : St} {id : Nat} {m : FO} {p : AV × Objs} (h : eff s id (softenF m) = some p) : eff s id m = some p := by
 cases m <;> try exact h
 case bsl sz xs =>
  simp only [softenF, eff] at h ⊢
  split at h
  ·rename_i L fl he
   rw [elemsP_elems he]
   exact h
  ·cases h
def softenE : FO → FO
 | .bsl sz [] => .bsle sz
 | .app (.t n) y sz by_ false => .app0 (.t n) y sz by_
 | m => m
section
variable {P : Program} {N : Fr} {w0 : Base} {D0 : BSet} {E : Env} {st : St} {a : Act} {w : World}
theorem ofConst1_repO {D : BSet} {o : Bool} {v : Value} {x : V} (h : ofConst1 v = some x) : Rep w D o x v Emp := by
 unfold ofConst1 at h
 split at h
 all_goals first | (cases h; done) | (simp only [Option.some.injEq] at h; subst h)
 ·exact .int _ _
 ·exact .bool _
 ·exact by simpa using Rep.str (w := w) (D := D) (o := o) (S := Emp) _
 ·exact .nil 0
theorem ofConsts_repO {D : BSet} {o : Bool} : ∀ {vs : List Value} {xs : List V}, ofConsts vs = some xs → Reps w D o xs vs Emp
 | [], xs, h => by
  simp only [ofConsts, Option.some.injEq] at h
  subst h
  exact .nil
 | v :: vs, xs, h => by
  simp only [ofConsts] at h
  split at h
  ·rename_i x ys hx hy
   simp only [Option.some.injEq] at h
   subst h
   exact .cons (ofConst1_repO hx) (ofConsts_repO hy) (fun _ h => h.elim) (fun _ h => h) (fun _ h => h)
  ·cases h
theorem reps_replicate {D : BSet} {o : Bool} {z : V} {v : Value} (h : Rep w D o z v Emp) : ∀ n, Reps w D o ((List.replicate n z).flatMap V.cells) ((List.replicate n v).flatMap fun y => y.cells.toList) Emp
 | 0 => by simpa using Reps.nil
 | n + 1 => by
  rw [List.replicate_succ, List.replicate_succ, List.flatMap_cons, List.flatMap_cons]
  exact Reps.append (S1 := Emp) (S2 := Emp) h.cells.1 (reps_replicate h n) (fun _ h => h.elim) (fun _ h => h) (fun _ h => h)
theorem replicate_cells {v : Value} {sz : Nat} (hs : v.cells.size = sz) : ∀ (n j : Nat) (u : Value), ((List.replicate n v).flatMap fun y => y.cells.toList)[j]? = some u → j < n * sz ∧ v.cells[j % sz]? = some u
 | 0, j, u, h => by simp at h
 | n + 1, j, u, h => by
  rw [List.replicate_succ, List.flatMap_cons, List.getElem?_append] at h
  split at h
  ·rename_i hlt
   simp only [Array.length_toList, hs] at hlt
   refine ⟨by rw [Nat.succ_mul]; omega, ?_⟩
   rw [Nat.mod_eq_of_lt hlt]
   simpa using h
  ·rename_i hge
   simp only [Array.length_toList, hs] at hge h
   obtain ⟨h1, h2⟩ := replicate_cells hs n (j - sz) u h
   refine ⟨by rw [Nat.succ_mul]; omega, ?_⟩
   have : (j - sz) % sz = j % sz := (Nat.mod_eq_sub_mod (by omega)).symm
   rw [← this]
   exact h2
theorem fold_set (off : Nat) (v cells : Array Value) (h : off + v.size ≤ cells.size) :
  (v.zipIdx.foldl (fun cs (c, j) => cs.setIfInBounds (off + j) c) cells) = (cells.toList.take off ++ v.toList ++ cells.toList.drop (off + v.size)).toArray := by
 have gen : ∀ (l : List Value) (k : Nat) (cs : Array Value), off + k + l.length ≤ cs.size → (l.zipIdx k).foldl (fun cs (p : Value × Nat) => cs.setIfInBounds (off + p.2) p.1) cs = (cs.toList.take (off + k) ++ l ++ cs.toList.drop (off + k + l.length)).toArray := by
  intro l
  induction l with
  | nil => intro k cs _; simp
  | cons c l ih =>
   intro k cs hk
   simp only [List.length_cons] at hk
   simp only [List.zipIdx_cons, List.foldl_cons]
   rw [ih (k + 1) _ (by simp; omega)]
   have e := list_seg_step cs.toList (off + k) c l (by simp; omega)
   simp only [Array.toList_setIfInBounds, List.length_cons]
   rw [show off + (k + 1) = off + k + 1 by omega, e]
 have := gen v.toList 0 cells (by simp; omega)
 simp only [Nat.add_zero, Array.length_toList] at this
 rw [← this]
 rw [← Array.foldl_toList]
 simp [Array.toList_zipIdx]
theorem fill_parts {size : Nat} : ∀ (ps : List (Nat × Value)) (i : Nat) (cells : Array Value) (done : List Value), (∀ k p, ps[k]? = some p → p.1 = i + k ∧ p.2.cells.size = size) → done.length = i * size → cells.size = (i + ps.length) * size → cells.toList.take (i * size) = done →
  Instr.fill (fun i => some (i * size, size)) cells ps = some (done ++ ps.flatMap fun p => p.2.cells.toList).toArray
 | [], i, cells, done, h, hd, hc, ht => by
  simp only [Instr.fill, List.flatMap_nil, List.append_nil, Option.some.injEq]
  simp only [List.length_nil, Nat.add_zero] at hc
  rw [← ht, List.take_of_length_le (by simp; omega)]
 | (q, v) :: ps, i, cells, done, h, hd, hc, ht => by
  obtain ⟨hq, hv⟩ := h 0 (q, v) rfl
  simp only [Nat.add_zero] at hq
  subst hq
  simp only at hv
  simp only [List.length_cons] at hc
  have hmul : (q + (ps.length + 1)) * size = q * size + size + ps.length * size := by rw [Nat.add_mul, Nat.add_mul]; omega
  have hfold : (v.cells.zipIdx.foldl (fun cs (c, j) => cs.setIfInBounds (q * size + j) c) cells) = (cells.toList.take (q * size) ++ v.cells.toList ++ cells.toList.drop (q * size + size)).toArray := by
   have gen : ∀ (l : List Value) (k : Nat) (cs : Array Value), q * size + k + l.length ≤ cs.size → (l.zipIdx k).foldl (fun cs (p : Value × Nat) => cs.setIfInBounds (q * size + p.2) p.1) cs = (cs.toList.take (q * size + k) ++ l ++ cs.toList.drop (q * size + k + l.length)).toArray := by
    intro l
    induction l with
    | nil => intro k cs _; simp
    | cons c l ih =>
     intro k cs hk
     simp only [List.length_cons] at hk
     simp only [List.zipIdx_cons, List.foldl_cons]
     rw [ih (k + 1) _ (by simp; omega)]
     have e := list_seg_step cs.toList (q * size + k) c l (by simp; omega)
     simp only [Array.toList_setIfInBounds, List.length_cons]
     rw [show q * size + (k + 1) = q * size + k + 1 by omega, e]
   have := gen v.cells.toList 0 cells (by simp; omega)
   simp only [Nat.add_zero, Array.length_toList, hv] at this
   rw [← this]
   rw [← Array.foldl_toList]
   simp [Array.toList_zipIdx]
  have hcond : ¬ (v.cells.size ≠ size ∨ q * size + v.cells.size > cells.size) := by
   rw [hv]; intro hh
   rcases hh with hh | hh
   ·exact hh rfl
   ·omega
  have ih := fill_parts ps (q + 1) (cells.toList.take (q * size) ++ v.cells.toList ++ cells.toList.drop (q * size + size)).toArray (done ++ v.cells.toList)
   (fun k p hp => by have := h (k + 1) p (by simpa using hp); exact ⟨by omega, this.2⟩)
   (by simp [hd, hv, Nat.succ_mul]) (by
    have : (q + 1 + ps.length) * size = (q + (ps.length + 1)) * size := by congr 1; omega
    rw [this, hmul]
    simp only [List.size_toArray, List.length_append, List.length_take, List.length_drop, Array.length_toList, hv]
    omega)
   (by
    simp only
    rw [ht, List.take_append_of_le_length (by simp [hd, hv, Nat.succ_mul]), List.take_of_length_le (by simp [hd, hv, Nat.succ_mul])])
  simp only [Instr.fill]
  have hcond' : (decide (v.cells.size ≠ size) || decide (q * size + v.cells.size > cells.size)) = false := by
   simp only [Bool.or_eq_false_iff, decide_eq_false_iff_not]
   exact ⟨fun h => hcond (.inl h), fun h => hcond (.inr h)⟩
  split
  ·rename_i hh
   simp only [hcond'] at hh
   cases hh
  ·rw [hfold, ih]
   simp
end
end Go.Ab
set_option linter.unusedVariables false
set_option linter.unusedSimpArgs false
namespace Go.Ab
open Go.RowKit
def cellSz (P : Program) : Nat → TypeId → List Nat
 | 0, _ => []
 | k + 1, t => match P.underlying t with
  | some (.struct fs) => fs.toList.flatMap fun f => cellSz P k f.type
  | some (.array n e) => (List.replicate n (cellSz P k e)).flatten
  | some (.slice e) => [(sizeT P e).getD 0]
  | _ => [0]
def zeroOf (P : Program) (t : TypeId) : Option Value := (P.info? t).bind (·.zero)
def zipSz : List V → List Nat → List (V × Nat × Bool)
 | [], _ => []
 | v :: vs, [] => (v, 0, false) :: zipSz vs []
 | v :: vs, n :: ns => (v, n, false) :: zipSz vs ns
def mask (ps : List (Nat × Nat × X)) (k : Nat) : List (V × Nat × Bool) → List (V × Nat × Bool)
 | [] => []
 | (v, n, _) :: zs => (v, n, ps.any fun p => decide (p.1 ≤ k) && decide (k < p.1 + p.2.1)) :: mask ps (k + 1) zs
def szC : V → Nat → V
 | .sl _ [], n => .sl n []
 | v, _ => v
def szCs : List V → List Nat → List V
 | v :: vs, n :: ns => szC v n :: szCs vs ns
 | vs, [] => vs
 | [], _ => []
def szV (ns : List Nat) : V → V
 | .agg cs => .agg (szCs cs ns)
 | v => szC v (ns.headD 0)
theorem szC_cells {v : V} {n : Nat} (h : v.one = true) : (szC v n).cells = [szC v n] ∧ (szC v n).one = true := by
 unfold szC
 split
 ·exact ⟨rfl, rfl⟩
 ·exact ⟨V.cells_one h, h⟩
theorem ofConst1_szO {w : World} {D : BSet} {o : Bool} {v : Value} {x : V} {n : Nat} (h : ofConst1 v = some x) : Rep w D o (szC x n) v Emp := by
 unfold ofConst1 at h
 split at h
 all_goals first | (cases h; done) | (simp only [Option.some.injEq] at h; subst h)
 ·exact .int _ _
 ·exact .bool _
 ·exact by simpa [szC] using Rep.str (w := w) (D := D) (o := o) (S := Emp) _
 ·exact .nil n
theorem ofConsts_szO {w : World} {D : BSet} {o : Bool} : ∀ {vs : List Value} {xs : List V} (ns : List Nat), ofConsts vs = some xs → Reps w D o (szCs xs ns) vs Emp ∧ ∀ c ∈ szCs xs ns, V.one c = true
 | [], xs, ns, h => by
  simp only [ofConsts, Option.some.injEq] at h
  subst h
  cases ns <;> exact ⟨.nil, by simp [szCs]⟩
 | v :: vs, xs, [], h => by
  have e : szCs xs [] = xs := by cases xs <;> rfl
  rw [e]
  exact ⟨ofConsts_repO h, (ofConsts_rep (w := w) (D := D) h).2⟩
 | v :: vs, xs, n :: ns, h => by
  simp only [ofConsts] at h
  split at h
  ·rename_i x ys hx hy
   simp only [Option.some.injEq] at h
   subst h
   obtain ⟨h1, h2⟩ := ofConsts_szO (w := w) (D := D) (o := o) ns hy
   refine ⟨.cons (ofConst1_szO hx) h1 (fun _ h => h.elim) (fun _ h => h) (fun _ h => h), ?_⟩
   intro c hc
   rcases List.mem_cons.1 hc with rfl | hc
   ·exact (szC_cells (ofConst1_rep (w := w) (D := D) hx).2).2
   ·exact h2 c hc
  ·cases h
theorem ofConst_szO {w : World} {D : BSet} {o : Bool} {v : Value} {x : V} (ns : List Nat) (h : ofConst v = some x) : Rep w D o (szV ns x) v Emp := by
 unfold ofConst at h
 split at h
 ·rename_i cs
  obtain ⟨xs, hx, rfl⟩ := Option.map_eq_some_iff.1 h
  obtain ⟨h1, h2⟩ := ofConsts_szO (w := w) (D := D) (o := o) ns hx
  exact by simpa [szV] using Rep.agg h2 h1
 ·have h2 : szV ns x = szC x (ns.headD 0) := by
   have := (ofConst1_rep (w := w) (D := D) h).2
   cases x <;> first | rfl | simp [V.one] at this
  rw [h2]
  exact ofConst1_szO h
theorem mask_fst (ps : List (Nat × Nat × X)) : ∀ (zs : List (V × Nat × Bool)) (k : Nat), (mask ps k zs).map (·.1) = zs.map (·.1)
 | [], _ => rfl
 | (v, n, b) :: zs, k => by simp [mask, mask_fst ps zs (k + 1)]
theorem zipSz_fst : ∀ (vs : List V) (ns : List Nat), (zipSz vs ns).map (·.1) = vs
 | [], _ => rfl
 | v :: vs, [] => by simp [zipSz, zipSz_fst vs []]
 | v :: vs, n :: ns => by simp [zipSz, zipSz_fst vs ns]
def compParts (ps : List (Nat × Operand)) (i : Nat) : Option (List X) := match ps with
 | [] => some []
 | (k, p) :: ps => if k = i then (match compX p, compParts ps (i + 1) with
  | some x, some xs => some (x :: xs)
  | _, _ => none) else none
def compAlloc (P : Program) (t : TypeId) : Option FO := match zeroOf P t with
 | some z => match ofConsts z.cells.toList with
  | some zs => some (.alloc (zipSz zs (cellSz P 6 t)))
  | none => none
 | none => none
def compFill (place : Nat → Option (Nat × Nat)) : List (Nat × Operand) → Option (List (Nat × Nat × X))
 | [] => some []
 | (i, x) :: ps => match place i, compX x, compFill place ps with
  | some (off, n), some y, some l => some ((off, n, y) :: l)
  | _, _, _ => none
def placesOf (P : Program) (t : TypeId) : Option (Nat → Option (Nat × Nat)) := match P.underlying t with
 | some (.array _ e) => (P.info? e).map fun ie => fun i => some (i * ie.size, ie.size)
 | some (.struct fields) => (fields.toList.mapM (fun f => (P.info? f.type).map fun i => (f.offset, i.size))).map fun l => fun i => l.toArray[i]?
 | _ => none
def compBld (P : Program) (t : TypeId) (ps : List (Nat × Operand)) : Option FO := match zeroOf P t, placesOf P t with
 | some z, some place => match ofConsts z.cells.toList, compFill place ps with
  | some zs, some l => some (.bld (mask l 0 (zipSz zs (cellSz P 6 t))) l)
  | _, _ => none
 | _, _ => none
def compAsgN (P : Program) (ty : TypeId) (p : Operand) : Option FO := match p with
 | .const v => match v with
  | .slice none 0 0 => match P.underlying ty with
   | some (.slice e) => (sizeT P e).map FO.nilrow
   | _ => none
  | _ => none
 | _ => none
def isZero : Option Operand → Bool
 | some (.const (.int _ 0)) => true
 | _ => false
def compSlc3 (P : Program) (t : TypeId) (x : Operand) (lo hi mx : Option Operand) : Option FO :=
 if (lo.isNone || isZero lo) && isZero hi && isZero mx then (match compX x, P.underlying t with
  | some x, some (.slice e) => (sizeT P e).map (FO.nilof x)
  | _, _ => none) else none
def compBsl (P : Program) (t : TypeId) (n : Nat) (ps : List (Nat × Operand)) : Option FO := match P.underlying t with
 | some (.slice e) => match sizeT P e, zeroOf P e, compParts ps 0 with
  | some sz, some z, some xs => if ps.length = n ∧ n * sz ≤ 16777216 ∧ z.cells.size = sz ∧ n ≤ 16777216 then some (.bsl sz xs) else none
  | _, _, _ => none
 | _ => none
def compMks (P : Program) (t : TypeId) (l c : Operand) : Option FO := match P.underlying t with
 | some (.slice e) => match P.info? e with
  | some i => match i.zero with
   | some z => match ofConst z, compX l, compX c with
    | some zv, some l, some c => if z.cells.size = i.size then some (.mks i.size i.bytes (szV (cellSz P 6 e) zv) l c) else none
    | _, _, _ => none
   | none => none
  | none => none
 | _ => none
def compSt (P : Program) (t : TypeId) (x v : Operand) : Option FO := match compX x, compX v, sizeT P t with
 | some x, some v, some (n + 1) => some (.st x v (n + 1))
 | _, _, _ => none
def compApp (P : Program) (c : Call) (mv : Bool) : Option FO := match c.callee with
 | .builtin .append => match c.args.toList, c.argTypes.toList with
  | [x, y], [t, t'] => if t = t' then (match P.underlying t with
   | some (.slice e) => match P.info? e with
    | some i => match i.zero with
     | some z => match compX x, compX y with
      | some x, some y => if z.cells.size = i.size then some (.app x y i.size i.bytes mv) else none
      | _, _ => none
     | none => none
    | none => none
   | _ => none) else none
  | _, _ => none
 | _ => none
def compClr (P : Program) (c : Call) : Option FO := match c.callee with
 | .builtin .clear => match c.args.toList, c.argTypes.toList with
  | [x], [t] => match P.underlying t with
   | some (.slice e) => match P.info? e with
    | some i => match i.zero with
     | some z => match ofConst z, compX x with
      | some zv, some x => if z.cells.size = i.size then some (.clr x (szV (cellSz P 6 e) zv) i.size) else none
      | _, _ => none
     | none => none
    | none => none
   | _ => none
  | _, _ => none
 | _ => none
def compMkm (P : Program) (t : TypeId) : Option Operand → Option FO
 | none => some .mkm
 | some (.const (.int _ _)) => match P.underlying t with
  | some (.map _ _) => some .mkm
  | _ => none
 | _ => none
def compMpu (P : Program) (t : TypeId) (m k v : Operand) : Option FO := match compX m, compX k, compX v, mapT P t with
 | some m, some k, some v, some (kd, _) => some (.mpu kd m k v)
 | _, _, _, _ => none
def compMen (P : Program) (t : TypeId) (m k : Operand) : Option FO := match compX m, compX k, mapT P t with
 | some m, some k, some (kd, z) => some (.men kd m k z)
 | _, _, _ => none
def compMes (m s v : Operand) : Option FO := match compX m, compX s, compX v with
 | some m, some s, some v => some (.mes m s v)
 | _, _, _ => none
def compF (P : Program) (ty : TypeId) (mv : Bool) : Op → Option FO
 | .box _ x => (compX x).map FO.box
 | .alloc t => compAlloc P t
 | .build t ps => compBld P t ps.toList
 | .assign p => compAsgN P ty p
 | .slice t x lo hi mx => compSlc3 P t x lo hi mx
 | .buildSlice t n ps => compBsl P t n ps.toList
 | .makeSlice t l c => compMks P t l c
 | .store t x v => compSt P t x v
 | .makeMap t r => compMkm P t r
 | .mapUpdate t m k v => compMpu P t m k v
 | .insert t m k v => compMpu P t m k v
 | .mapEntry t m k => compMen P t m k
 | .entryStore _ m s v => compMes m s v
 | .call c => match compApp P c mv with
  | some m => some m
  | none => compClr P c
 | _ => none
section
variable {P : Program} {N : Fr} {w0 : Base} {D0 : BSet} {E : Env} {st : St} {a : Act} {w : World}
theorem eff_box (hE : SimE N w0 D0 E st a w) {id : Nat} (hf : st.objs id = none) {p : Operand} {x : X} (hx : compX p = some x) {cs : List AV} (hc : cellsAV st (st.get x) = some cs) (t : TypeId) :
  ∃ E', E.Le E' ∧ Good w0 D0 E' ∧ E'.objs = upd st.objs id (some (.box cs)) ∧ (Instr.box t (a.eval p)).run P w = .ok (.pointer (some ⟨w.heap.size, 0, none⟩)) E'.w ∧ AvRep E' (.ptr id 0 0) (.pointer (some ⟨w.heap.size, 0, none⟩)) := by
 have ew := hE.ew
 have eo := hE.eo
 obtain ⟨h1, h2⟩ := cellsAV_rep hE (get_rep hE hx) hc
 obtain ⟨E', le, g, hw, ho, hr⟩ := mk_box hE.good (id := id) (by rw [eo]; exact hf) h1 h2 t
 rw [ew] at hw hr
 refine ⟨E', le, g, by rw [ho, eo], ?_, hr⟩
 rw [hw]
 simp [Instr.box, newVar, newRow]
theorem zcells_rep : ∀ {zs : List (V × Nat × Bool)} {E : Env} (hg : Good w0 D0 E) {id : Nat} (hf : ∀ k, k < zs.length → E.objs (id + k) = none) {vs : List Value} (h : ofConsts vs = some (zs.map (·.1))),
  ∃ E', E.Le E' ∧ Good w0 D0 E' ∧ E'.w = E.w ∧ E'.objs = (zcells id E.objs zs).2 ∧ AvReps E' (zcells id E.objs zs).1 vs ∧ (∀ v ∈ vs, v.oneCell' = true) ∧ (∀ q, (q < id ∨ id + zs.length ≤ q) → E'.objs q = E.objs q)
 | [], E, hg, id, hf, vs, h => by
  cases vs with
  | nil => exact ⟨E, Env.Le.refl E, hg, rfl, rfl, .nil, by simp, fun q _ => rfl⟩
  | cons v vs =>
   simp only [ofConsts, List.map_nil] at h
   split at h <;> simp at h
 | (z, n, b) :: zs, E, hg, id, hf, vs, h => by
  cases vs with
  | nil => simp [ofConsts] at h
  | cons v vs =>
   simp only [ofConsts, List.map_cons] at h
   split at h
   ·rename_i x ys hx hy
    simp only [Option.some.injEq, List.cons.injEq] at h
    obtain ⟨rfl, rfl⟩ := h
    have hone : v.oneCell' = true := (ofConst1_rep (w := E.w) (D := E.D) hx).1.oneCell (ofConst1_rep (w := E.w) (D := E.D) hx).2
    by_cases hz : x = .sl 0 [] ∧ b = false
    ·obtain ⟨rfl, rfl⟩ := hz
     have hv : v = .slice none 0 0 := by
      unfold ofConst1 at hx
      split at hx <;> simp at hx
      rfl
     subst hv
     obtain ⟨E1, le1, g1, w1, o1, r1⟩ := mk_nil hg (sz := n) (hf 0 (by simp)) none
     rw [Nat.add_zero] at o1 r1
     have hf1 : ∀ k, k < zs.length → E1.objs (id + 1 + k) = none := by
      intro k hk
      rw [o1, upd_ne (by omega)]
      have := hf (k + 1) (by simp; omega)
      rw [show id + 1 + k = id + (k + 1) by omega]
      exact this
     obtain ⟨E2, le2, g2, w2, o2, r2, one2, oth2⟩ := zcells_rep g1 hf1 hy
     rw [o1] at o2 r2
     refine ⟨E2, le1.trans le2, g2, w2.trans w1, by simp only [zcells, zc1]; exact o2, by simp only [zcells, zc1]; exact .cons (r1.le le2) r2, ?_, ?_⟩
     ·intro y hy'
      rcases List.mem_cons.1 hy' with rfl | hy'
      ·exact hone
      ·exact one2 y hy'
     ·intro q hq
      simp only [List.length_cons] at hq
      rw [oth2 q (by omega), o1, upd_ne (by omega)]
    ·obtain ⟨E2, le2, g2, w2, o2, r2, one2, oth2⟩ := zcells_rep hg (id := id) (fun k hk => hf k (by simp; omega)) hy
     obtain ⟨av, e1, hav⟩ : ∃ av, zc1 id E.objs (x, n, b) = (av, E.objs, id) ∧ AvRep E2 av v := by
      cases b with
      | true => exact ⟨.bad, rfl, .bad⟩
      | false =>
       refine ⟨.val none x, ?_, .val0 (ofConst1_repO hx)⟩
       cases x with
       | sl sz L =>
        cases sz with
        | zero => cases L with
         | nil => exact absurd ⟨rfl, rfl⟩ hz
         | cons => rfl
        | succ => rfl
       | _ => rfl
     simp only [zcells, e1]
     refine ⟨E2, le2, g2, w2, o2, .cons hav r2, ?_, ?_⟩
     ·intro y hy'
      rcases List.mem_cons.1 hy' with rfl | hy'
      ·exact hone
      ·exact one2 y hy'
     ·intro q hq
      simp only [List.length_cons] at hq
      exact oth2 q (by omega)
   ·cases h
theorem zero_run {t : TypeId} {z : Value} (hz : zeroOf P t = some z) : (zeroValue t).run P w = .ok z w := by
 unfold zeroOf at hz
 cases hi : P.info? t with
 | none => rw [hi] at hz; simp at hz
 | some i => rw [hi] at hz; simp at hz; simp [zeroValue, typeInfo, hi, hz]
theorem fillB_run (hE : SimE N w0 D0 E st a w) {E' : Env} (le : E.Le E') {place : Nat → Option (Nat × Nat)} : ∀ {ps : List (Nat × Operand)} {l : List (Nat × Nat × X)} {cs cs' : List AV} {cells : Array Value}, compFill place ps = some l → AvReps E' cs cells.toList → (∀ v ∈ cells.toList, v.oneCell' = true) → fillB st l cs = some cs' →
  ∃ cells', Instr.fill place cells (ps.map fun p => (p.1, a.eval p.2)) = some cells' ∧ AvReps E' cs' cells'.toList ∧ ∀ v ∈ cells'.toList, v.oneCell' = true
 | [], l, cs, cs', cells, hc, hr, h1, hf => by
  simp only [compFill, Option.some.injEq] at hc; subst hc
  simp only [fillB, Option.some.injEq] at hf; subst hf
  exact ⟨cells, rfl, hr, h1⟩
 | (i, x) :: ps, l, cs, cs', cells, hc, hr, h1, hf => by
  simp only [compFill] at hc
  split at hc
  ·rename_i off n y l' hp hx hl
   simp only [Option.some.injEq] at hc; subst hc
   simp only [fillB] at hf
   split at hf
   ·rename_i us hus
    split at hf
    ·rename_i hk
     obtain ⟨hk1, hk2⟩ := hk
     obtain ⟨r1, r2⟩ := cellsAV_rep hE (get_rep hE hx) hus
     have len1 := r1.length
     have len2 := hr.length
     simp only [Array.length_toList] at len1 len2
     have hfold := fold_set off (a.eval x).cells cells (by omega)
     obtain ⟨cells', e1, e2, e3⟩ := fillB_run hE le (cells := (cells.toList.take off ++ (a.eval x).cells.toList ++ cells.toList.drop (off + (a.eval x).cells.size)).toArray) hl (by
      have hn : (a.eval x).cells.size = n := by omega
      rw [hn]
      exact ((hr.take off).append (r1.le le)).append (hr.drop (off + n))) (by
      intro v hv
      simp only [List.mem_append] at hv
      rcases hv with (hv | hv) | hv
      ·exact h1 v (List.mem_of_mem_take hv)
      ·exact r2 v hv
      ·exact h1 v (List.mem_of_mem_drop hv)) hf
     refine ⟨cells', ?_, e2, e3⟩
     simp only [List.map_cons, Instr.fill, hp]
     have hcond : (decide ((a.eval x).cells.size ≠ n) || decide (off + (a.eval x).cells.size > cells.size)) = false := by
      simp only [Bool.or_eq_false_iff, decide_eq_false_iff_not]
      exact ⟨fun h => h (by omega), fun h => by omega⟩
     rw [hcond]
     simp only [Bool.false_eq_true, if_false]
     rw [hfold]
     exact e1
    ·cases hf
   ·cases hf
  ·cases hc
theorem eff_bld (hE : SimE N w0 D0 E st a w) {id : Nat} (hf : ∀ k, k < 64 → st.objs (id + k) = none) {t : TypeId} {ps : Array (Nat × Operand)} {m : FO} (hc : compBld P t ps.toList = some m) {av : AV} {ob : Objs} (he : eff st id m = some (av, ob)) :
  ∃ E' v, E.Le E' ∧ Good w0 D0 E' ∧ E'.objs = ob ∧ E'.w = w ∧ (Instr.build t (ps.map fun p => (p.1, a.eval p.2))).run P w = .ok v w ∧ AvRep E' av v := by
 have ew := hE.ew
 have eo := hE.eo
 unfold compBld at hc
 split at hc
 ·rename_i z place hz hpl
  split at hc
  ·rename_i zs l hzs hl
   simp only [Option.some.injEq] at hc; subst hc
   simp only [eff] at he
   split at he
   ·rename_i hlen
    split at he
    ·rename_i cs hcs
     simp only [Option.some.injEq, Prod.mk.injEq] at he
     obtain ⟨rfl, rfl⟩ := he
     obtain ⟨E1, le1, g1, w1, o1, r1, one1, oth1⟩ := zcells_rep hE.good (id := id) (zs := mask l 0 (zipSz zs (cellSz P 6 t))) (fun k hk => by rw [eo]; exact hf k (by omega)) (vs := z.cells.toList) (by rw [mask_fst, zipSz_fst]; exact hzs)
     rw [eo] at r1 o1
     obtain ⟨cells', e1, e2, e3⟩ := fillB_run hE le1 hl r1 one1 hcs
     refine ⟨E1, .agg cells', le1, g1, o1, by rw [w1, ew], run_build w t _ cells' ?_, by simpa using AvRep.agg e3 e2⟩
     unfold placesOf at hpl
     have hlist : (ps.map fun p => (p.1, a.eval p.2)).toList = ps.toList.map fun p => (p.1, a.eval p.2) := by simp
     unfold zeroOf at hz
     unfold Program.built
     cases hi : P.info? t with
     | none => rw [hi] at hz; simp at hz
     | some it =>
      rw [hi] at hz
      simp only [Option.bind_some] at hz
      split at hpl
      ·rename_i n e hu
       obtain ⟨ie, hie, rfl⟩ := Option.map_eq_some_iff.1 hpl
       simp only [hu, hz, hie, hlist]
       exact e1
      ·rename_i fields hu
       obtain ⟨pl, hpl2, rfl⟩ := Option.map_eq_some_iff.1 hpl
       simp only [hu, hz, hlist]
       rw [hpl2]
       exact e1
      ·cases hpl
    ·cases he
   ·cases he
  ·cases hc
 ·cases hc
theorem eff_alloc (hE : SimE N w0 D0 E st a w) {id : Nat} (hf : ∀ k, k < 64 → st.objs (id + k) = none) {t : TypeId} {m : FO} (hc : compAlloc P t = some m) {av : AV} {ob : Objs} (he : eff st id m = some (av, ob)) :
  ∃ E' v, E.Le E' ∧ Good w0 D0 E' ∧ E'.objs = ob ∧ (Instr.alloc t true (.tuple #[])).run P w = .ok v E'.w ∧ AvRep E' av v := by
 have ew := hE.ew
 have eo := hE.eo
 unfold compAlloc at hc
 split at hc
 ·rename_i z hz
  split at hc
  ·rename_i zs hzs
   simp only [Option.some.injEq] at hc; subst hc
   simp only [eff] at he
   split at he
   ·rename_i hlen
    simp only [Option.some.injEq, Prod.mk.injEq] at he
    obtain ⟨rfl, rfl⟩ := he
    obtain ⟨E1, le1, g1, w1, o1, r1, one1, oth1⟩ := zcells_rep hE.good (id := id + 1) (zs := zipSz zs (cellSz P 6 t)) (fun k hk => by rw [eo, Nat.add_assoc]; exact hf (1 + k) (by omega)) (vs := z.cells.toList) (by rw [zipSz_fst]; exact hzs)
    obtain ⟨E2, le2, g2, w2, o2, r2⟩ := mk_box g1 (id := id) (by rw [oth1 id (by omega), eo]; exact hf 0 (by omega)) r1 one1 t
    have hrun : (zeroValue t).run P w = .ok z w := zero_run hz
    refine ⟨E2, .pointer (some ⟨w.heap.size, 0, none⟩), le1.trans le2, g2, by rw [o2, o1, eo], ?_, ?_⟩
    ·rw [w2, w1, ew]
     simp [Instr.alloc, hrun, newVar, newRow]
    ·have e : E1.w.heap.size = w.heap.size := by rw [w1, ew]
     rw [e] at r2
     exact r2
   ·cases he
  ·cases hc
 ·cases hc
theorem eff_asg (hE : SimE N w0 D0 E st a w) {id : Nat} (hf : st.objs id = none) {ty : TypeId} {p : Operand} {m : FO} (hc : compAsgN P ty p = some m) {av : AV} {ob : Objs} (he : eff st id m = some (av, ob)) :
  ∃ E', E.Le E' ∧ Good w0 D0 E' ∧ E'.objs = ob ∧ E'.w = w ∧ AvRep E' av (a.eval p) := by
 unfold compAsgN at hc
 split at hc
 ·split at hc
  ·split at hc
   ·obtain ⟨sz, hsz, rfl⟩ := Option.map_eq_some_iff.1 hc
    simp only [eff, Option.some.injEq, Prod.mk.injEq] at he
    obtain ⟨rfl, rfl⟩ := he
    obtain ⟨E1, le1, g1, w1, o1, r1⟩ := mk_nil hE.good (id := id) (sz := sz) (by rw [hE.eo]; exact hf) none
    exact ⟨E1, le1, g1, by rw [o1, hE.eo], by rw [w1, hE.ew], r1⟩
   ·cases hc
  ·cases hc
 ·cases hc
theorem isZero_eval {p : Option Operand} (h : isZero p = true) : ∃ q k, p = some q ∧ a.eval q = .int k 0 := by
 unfold isZero at h
 split at h
 ·exact ⟨_, _, rfl, rfl⟩
 ·cases h
theorem eff_slc3 (hE : SimE N w0 D0 E st a w) {id : Nat} (hf : st.objs id = none) {t : TypeId} {p : Operand} {lo hi mx : Option Operand} {m : FO} (hc : compSlc3 P t p lo hi mx = some m) {av : AV} {ob : Objs} (he : eff st id m = some (av, ob)) :
  ∃ E' v, E.Le E' ∧ Good w0 D0 E' ∧ E'.objs = ob ∧ E'.w = w ∧ (Instr.sliceAt t (a.eval p) (lo.map a.eval) (hi.map a.eval) (mx.map a.eval)).run P w = .ok v w ∧ AvRep E' av v := by
 have eo := hE.eo
 have ew := hE.ew
 unfold compSlc3 at hc
 split at hc
 ·rename_i hz
  simp only [Bool.and_eq_true, Bool.or_eq_true] at hz
  obtain ⟨⟨hlo, hhi⟩, hmx⟩ := hz
  split at hc
  ·rename_i x e hx ht
   obtain ⟨sz, hsz, rfl⟩ := Option.map_eq_some_iff.1 hc
   have hg := get_rep hE hx
   have hsl : (∃ ad n c, a.eval p = .slice ad n c) ∧ av = .sl id 0 0 ∧ ob = upd st.objs id (some (.row true sz [])) := by
    simp only [eff] at he
    split at he
    ·rename_i r off len hq
     split at he
     ·rename_i own sz' L ho
      simp only [Option.some.injEq, Prod.mk.injEq] at he
      obtain ⟨rfl, rfl⟩ := he
      rw [hq] at hg
      generalize a.eval p = z at hg ⊢
      cases hg with
      | sl hr h =>
       obtain ⟨_, hat⟩ := h _ _ _ (by rw [eo]; exact ho)
       unfold SlAt at hat
       split at hat
       ·obtain ⟨⟨ad, rfl⟩, _⟩ := hat
        exact ⟨⟨_, _, _, rfl⟩, rfl, rfl⟩
       ·obtain ⟨ad, c, rfl, _⟩ := hat
        exact ⟨⟨_, _, _, rfl⟩, rfl, rfl⟩
     ·cases he
    ·split at he
     ·rename_i src sz' L hv
      simp only [Option.some.injEq, Prod.mk.injEq] at he
      obtain ⟨rfl, rfl⟩ := he
      have hr := (view_rep hE hg hv).1
      generalize a.eval p = z at hr ⊢
      cases hr with
      | nil => exact ⟨⟨_, _, _, rfl⟩, rfl, rfl⟩
      | slro => exact ⟨⟨_, _, _, rfl⟩, rfl, rfl⟩
     ·cases he
   obtain ⟨⟨ad, n, c, hp⟩, rfl, rfl⟩ := hsl
   obtain ⟨q1, k1, rfl, h1⟩ := isZero_eval (a := a) hhi
   obtain ⟨q2, k2, rfl, h2⟩ := isZero_eval (a := a) hmx
   have hb : (Instr.sliceBounds true n c (lo.map a.eval) (some (a.eval q1)) (some (a.eval q2))).run P w = .ok (0, 0, 0) w := by
    rcases hlo with hlo | hlo
    ·cases lo with
     | none => simp [Instr.sliceBounds, Instr.sliceBound, h1, h2, asIntOf]
     | some q => simp at hlo
    ·obtain ⟨q3, k3, rfl, h3⟩ := isZero_eval (a := a) hlo
     simp [Instr.sliceBounds, Instr.sliceBound, h1, h2, h3, asIntOf]
   obtain ⟨E1, le1, g1, w1, o1, r1⟩ := mk_nil hE.good (id := id) (sz := sz) (by rw [eo]; exact hf) ad
   refine ⟨E1, .slice ad 0 0, le1, g1, by rw [o1, eo], by rw [w1, ew], ?_, r1⟩
   simp only [Instr.sliceAt, Sem.run_bind, run_under ht, Result.andThen_ok, Instr.slice, hp, Option.map_some, hb, run_sizeOf' hsz, if_true, Sem.run_pure, Nat.sub_self]
  ·cases hc
 ·cases hc
theorem compParts_rep (hE : SimE N w0 D0 E st a w) : ∀ {ps : List (Nat × Operand)} {i : Nat} {xs : List X}, compParts ps i = some xs → AvReps E (xs.map st.get) (ps.map fun p => a.eval p.2) ∧ (∀ k p, ps[k]? = some p → p.1 = i + k) ∧ xs.length = ps.length
 | [], i, xs, h => by
  simp only [compParts, Option.some.injEq] at h
  subst h
  exact ⟨.nil, by simp, rfl⟩
 | (k, p) :: ps, i, xs, h => by
  simp only [compParts] at h
  split at h
  ·rename_i hk
   split at h
   ·rename_i x ys hx hy
    simp only [Option.some.injEq] at h
    subst h
    obtain ⟨h1, h2, h3⟩ := compParts_rep hE hy
    refine ⟨.cons (get_rep hE hx) h1, ?_, by simp [h3]⟩
    intro j q hj
    cases j with
    | zero => simp at hj; subst hj; exact hk
    | succ j =>
     simp at hj
     have := h2 j q hj
     omega
   ·cases h
  ·cases h
theorem elem_cells_one (hg : Good w0 D0 E) : ∀ {cs : List AV} {o1 o2 : Objs} (hd : Dies E.objs o1) {xs : List Value} (h : AvReps E cs xs) {L : List V} {fl : Bool} (ha : elems o1 cs = some (L, fl, o2)) {i : Nat} {y : V}, L[i]? = some y → ∀ c ∈ y.cells, V.one c = true
 | [], o1, o2, hd, xs, h, L, fl, ha, i, y, hi => by
  simp only [elems, Option.some.injEq, Prod.mk.injEq] at ha
  obtain ⟨rfl, rfl, rfl⟩ := ha
  simp at hi
 | c :: cs, o1, o2, hd, _, .cons h hs, L, fl, ha, i, y, hi => by
  simp only [elems] at ha
  split at ha
  ·rename_i v f o3 h1
   split at ha
   ·rename_i vs f' o4 h2
    simp only [Option.some.injEq, Prod.mk.injEq] at ha
    obtain ⟨rfl, rfl, rfl⟩ := ha
    obtain ⟨d1, T1, r1, b1, e1⟩ := elem_rep hg hd h h1
    cases i with
    | zero =>
     simp at hi; subst hi
     exact r1.cells.2
    | succ i =>
     simp at hi
     exact elem_cells_one hg (hd.trans d1) hs h2 hi
   ·cases ha
  ·cases ha
theorem eff_bsl (hE : SimE N w0 D0 E st a w) {id : Nat} (hf : st.objs id = none) {t n : Nat} {ps : Array (Nat × Operand)} {m : FO} (hc : compBsl P t n ps.toList = some m) {av : AV} {ob : Objs} (he : eff st id m = some (av, ob)) :
  ∃ E' v, E.Le E' ∧ Good w0 D0 E' ∧ E'.objs = ob ∧ (Instr.buildSlice t n (ps.map fun (i, x) => (i, a.eval x))).run P w = .ok v E'.w ∧ AvRep E' av v := by
 have eo := hE.eo
 have ew := hE.ew
 unfold compBsl at hc
 split at hc
 ·rename_i e ht
  split at hc
  ·rename_i sz z xs hsz hz hxs
   split at hc
   ·rename_i hcond
    obtain ⟨hn, hbig, hzs, hnn⟩ := hcond
    simp only [Option.some.injEq] at hc; subst hc
    simp only [eff] at he
    split at he
    ·rename_i L fl o2 hel
     split at he
     ·rename_i hall
      simp only [Option.some.injEq, Prod.mk.injEq] at he
      obtain ⟨rfl, rfl⟩ := he
      obtain ⟨hreps, hidx, hlen⟩ := compParts_rep hE hxs
      have hel' : elems E.objs (xs.map st.get) = some (L, fl, o2) := by rw [eo]; exact hel
      obtain ⟨hd, hl, hcs, T, hR, hT⟩ := elems_rep hE.good (Dies.refl _) hreps hel'
      have hLn : L.length = n := by rw [hl]; simp [hn]
      have hone : ∀ c ∈ L.flatMap V.cells, V.one c = true := by
       intro c hcm
       obtain ⟨y, hy, hcy⟩ := List.mem_flatMap.1 hcm
       obtain ⟨i, hi⟩ := List.mem_iff_getElem?.1 hy
       have hi2 : i < (ps.toList.map fun p => a.eval p.2).length := by
        rw [← hl]
        rcases Nat.lt_or_ge i L.length with h | h
        ·exact h
        ·rw [List.getElem?_eq_none h] at hi; cases hi
       exact elem_cells_one hE.good (Dies.refl _) hreps hel' hi c hcy
      have hU : Uni sz L := by
       intro y hy
       refine ⟨by simpa using List.all_eq_true.1 hall y hy, fun c hcy => hone c (List.mem_flatMap.2 ⟨y, hy, hcy⟩)⟩
      have hcells : (ps.toList.map fun p => a.eval p.2).flatMap (fun x => x.cells.toList) = (ps.toList.map fun p => ((p.1, a.eval p.2) : Nat × Value)).flatMap fun p => p.2.cells.toList := by
       simp [List.flatMap_map]
      have hpsz : ∀ k p, (ps.toList.map fun p => ((p.1, a.eval p.2) : Nat × Value))[k]? = some p → p.1 = 0 + k ∧ p.2.cells.size = sz := by
       intro k p hp
       simp only [List.getElem?_map, Option.map_eq_some_iff] at hp
       obtain ⟨q, hq, rfl⟩ := hp
       refine ⟨by have := hidx k q hq; simpa using this, ?_⟩
       have hk : k < L.length := by
        rw [hl]; simp
        rcases Nat.lt_or_ge k ps.toList.length with h | h
        ·simpa using h
        ·rw [List.getElem?_eq_none h] at hq; cases hq
       have := hcs k L[k] (a.eval q.2) (List.getElem?_eq_getElem hk) (by simp only [List.getElem?_map, hq, Option.map_some])
       rw [← this]
       simpa using List.all_eq_true.1 hall L[k] (List.getElem_mem hk)
      have hfill := fill_parts (size := sz) (ps.toList.map fun p => ((p.1, a.eval p.2) : Nat × Value)) 0 ((Array.range (n * sz)).map ((if n * sz = 0 then #[] else z.cells)[· % (if n * sz = 0 then #[] else z.cells).size]!)) [] hpsz (by simp) (by simp [hn]) (by simp)
      simp only [List.nil_append] at hfill
      have hzr : (zeroValue e).run P w = .ok z w := by
       unfold zeroOf at hz
       cases hi : P.info? e with
       | none => rw [hi] at hz; simp at hz
       | some i => rw [hi] at hz; simp at hz; simp [zeroValue, typeInfo, hi, hz]
      have hvl : ((ps.toList.map fun p => a.eval p.2).flatMap fun x => x.cells.toList).length = n * sz := by
       rw [← hR.length, hU.flat_length, hLn]
      obtain ⟨E', le, g, hw, ho, hr⟩ := mk_row hE.good hd (id := id) (by rw [eo]; exact hf) (sz := sz) (fl := fl) (L := L) (w' := E.w.alloc (.cells ((ps.toList.map fun p => ((p.1, a.eval p.2) : Nat × Value)).flatMap fun p => p.2.cells.toList).toArray e))
       (cur := ((ps.toList.map fun p => ((p.1, a.eval p.2) : Nat × Value)).flatMap fun p => p.2.cells.toList).toArray) (e := e) (c := n)
       hR (fun _ q hq => hT q hq) hU (.inl rfl) (by
        intro j u hj
        rw [hcells] at hj
        simpa using hj) (Reps.ones hR hone) (by omega) (by
         simp only [maxLen]
         omega) (by
        intro _
        rw [hcells] at hvl
        simp only [List.size_toArray]
        omega)
      refine ⟨E', .slice (some ⟨E.w.heap.size, 0, none⟩) L.length n, le, g, ho, ?_, hr⟩
      rw [hw, ew, hLn]
      have hbig' : ¬ (2 ^ 24 < n * sz) := by omega
      have hmap : (ps.map fun (i, x) => (i, a.eval x)).toList = (ps.toList.map fun p => ((p.1, a.eval p.2) : Nat × Value)) := by simp
      by_cases hn0 : n * sz = 0
      ·simp only [hn0, if_true] at hfill
       have hb0 : ¬ (2 ^ 24 < 0) := by omega
       simp only [Instr.buildSlice, Sem.run_bind, run_under ht, Result.andThen_ok, run_sizeOf' hsz, gt_iff_lt, hn0, hb0, if_false, if_true, Sem.run_pure, hmap, hfill]
       simp [newRow]
      ·rw [if_neg hn0] at hfill
       simp only [Instr.buildSlice, Sem.run_bind, run_under ht, Result.andThen_ok, run_sizeOf' hsz, gt_iff_lt, hbig', if_false, hn0, hzr, Sem.run_pure, hmap, hfill]
       simp [newRow]
     ·cases he
    ·cases he
   ·cases hc
  ·cases hc
 ·cases hc
theorem compParts_nil : ∀ {ps : List (Nat × Operand)} {i : Nat}, compParts ps i = some [] → ps = []
 | [], _, _ => rfl
 | (k, p) :: ps, i, h => by
  simp only [compParts] at h
  split at h
  ·split at h <;> simp at h
  ·cases h
theorem eff_bsl0 (hE : SimE N w0 D0 E st a w) {t n sz : Nat} {ps : Array (Nat × Operand)} (hc : compBsl P t n ps.toList = some (.bsl sz [])) :
  ∃ E' v, E.Le E' ∧ Good w0 D0 E' ∧ E'.objs = st.objs ∧ (Instr.buildSlice t n (ps.map fun (i, x) => (i, a.eval x))).run P w = .ok v E'.w ∧ AvRep E' .e0 v := by
 have eo := hE.eo
 have ew := hE.ew
 unfold compBsl at hc
 split at hc
 ·rename_i e ht
  split at hc
  ·rename_i sz z xs hsz hz hxs
   split at hc
   ·rename_i hcond
    obtain ⟨hn, _, _, _⟩ := hcond
    simp only [Option.some.injEq, FO.bsl.injEq] at hc
    obtain ⟨rfl, rfl⟩ := hc
    have hps := compParts_nil hxs
    have hpa : ps = #[] := by cases ps; simpa using hps
    subst hpa
    have hn0 : n = 0 := by simpa using hn.symm
    subst hn0
    obtain ⟨le, g⟩ := stp_ok (w' := E.w.alloc (.cells #[] e)) (D' := E.D) hE.good (below_alloc' _ _) (fun g h => h) (fun g h => ⟨by have := (hE.good.dIn g h).1; simp; omega, .inl h⟩)
    refine ⟨_, .slice (some ⟨E.w.heap.size, 0, none⟩) 0 0, le, g, by simp [Env.stp, eo], ?_, .e0⟩
    have hb0 : ¬ (2 ^ 24 < 0) := by omega
    simp only [Instr.buildSlice, Sem.run_bind, run_under ht, Result.andThen_ok, run_sizeOf' hsz, gt_iff_lt, Nat.zero_mul, hb0, if_false, if_true, Sem.run_pure]
    simp [newRow, Instr.fill, Env.stp, ew, show Array.range 0 = #[] from rfl]
   ·cases hc
  ·cases hc
 ·cases hc
end
end Go.Ab
set_option linter.unusedVariables false
set_option linter.unusedSimpArgs false
namespace Go.Ab
open Go.RowKit
section
variable {P : Program} {N : Fr} {w0 : Base} {D0 : BSet} {E : Env} {st : St} {a : Act} {w : World}
theorem eff_mks (hE : SimE N w0 D0 E st a w) {id : Nat} (hf : st.objs id = none) {t : TypeId} {p q : Operand} {m : FO} (hc : compMks P t p q = some m) {av : AV} {ob : Objs} (he : eff st id m = some (av, ob)) :
  ∃ E' v, E.Le E' ∧ Good w0 D0 E' ∧ E'.objs = ob ∧ (Instr.makeSlice t (a.eval p) (a.eval q)).run P w = .ok v E'.w ∧ AvRep E' av v := by
 have eo := hE.eo
 have ew := hE.ew
 unfold compMks at hc
 split at hc
 ·rename_i e ht
  split at hc
  ·rename_i i hi
   split at hc
   ·rename_i z hz
    split at hc
    ·rename_i zv l c hzv hl hcx
     split at hc
     ·rename_i hzs
      simp only [Option.some.injEq] at hc; subst hc
      simp only [eff] at he
      split at he
      ·rename_i ln cn h1 h2
       split at he
       ·rename_i hcond
        obtain ⟨c0, c1, c2, c3⟩ := hcond
        simp only [Option.some.injEq, Prod.mk.injEq] at he
        obtain ⟨rfl, rfl⟩ := he
        obtain ⟨k1, e1⟩ := asI_rep hE (get_rep hE hl) h1
        obtain ⟨k2, e2⟩ := asI_rep hE (get_rep hE hcx) h2
        have hrun := run_make (P := P) w t e i z ht hi hz k1 k2 ln cn c0 c1 c3 c2
        rw [← e1, ← e2] at hrun
        have hzrep : Rep E.w E.D true (szV (cellSz P 6 e) zv) z Emp := ofConst_szO _ hzv
        have hzc := hzrep.cells
        have hU : Uni i.size (List.replicate ln.toNat (szV (cellSz P 6 e) zv)) := by
         intro y hy
         obtain ⟨_, rfl⟩ := List.mem_replicate.1 hy
         exact ⟨by rw [hzc.1.length]; simpa using hzs, hzc.2⟩
        have hR := reps_replicate (w := E.w) (D := fun g => E.D g ∨ (true = false ∧ Gone E E.objs g)) (z := szV (cellSz P 6 e) zv) (v := z) (hzrep.ownD rfl) ln.toNat
        obtain ⟨E', le, g, hw, ho, hr⟩ := mk_row hE.good (Dies.refl _) (id := id) (by rw [eo]; exact hf) (sz := i.size) (fl := true) (L := List.replicate ln.toNat (szV (cellSz P 6 e) zv)) hR (fun _ q hq => hq.elim) hU
         (w' := E.w.alloc (.cells (madeCells z.cells (cn.toNat * i.size)) e)) (.inl rfl) (by
          intro j u hj
          obtain ⟨q1, q2⟩ := replicate_cells hzs _ j u hj
          have hle : ln.toNat * i.size ≤ cn.toNat * i.size := Nat.mul_le_mul_right _ (by omega)
          have hlt : j < cn.toNat * i.size := by omega
          have hmod : j % i.size < z.cells.size := by
           rw [hzs]
           exact Nat.mod_lt _ (by
            rcases Nat.eq_zero_or_pos i.size with h | h
            ·rw [h] at hlt; omega
            ·exact h)
          simp only [madeCells, Array.getElem?_map, Array.getElem?_range, hlt, if_true, Option.map_some, hzs]
          rw [Array.getElem?_eq_getElem hmod] at q2
          simp only [Option.some.injEq] at q2
          rw [getElem!_pos z.cells _ hmod, q2]) (Reps.ones hR hU.flat_one) (c := cn.toNat) (by simp; omega) (by simp only [maxLen]; omega) (by intro _; simp [size_madeCells])
        rw [List.length_replicate] at hr
        refine ⟨E', _, le, g, by rw [ho, eo], ?_, hr⟩
        rw [hw, ew]
        exact hrun
       ·cases he
      ·cases he
     ·cases hc
    ·cases hc
   ·cases hc
  ·cases hc
 ·cases hc
theorem srcOf_rep (hE : SimE N w0 D0 E st a w) {r sz : Nat} {o1 : Objs} (hd1 : Dies E.objs o1) {mv : Bool} {y : AV} {v : Value} (hy : AvRep E y v) (hlr : live (E.objs r) = true) (hl1 : live (o1 r) = true) {news : List V} {fl : Bool} {o2 : Objs} (hs : srcOf r o1 sz mv y = some (news, fl, o2)) :
  Dies o1 o2 ∧ live (o2 r) = true ∧ ∃ ad c vs T, v = .slice ad news.length c ∧ vs.length = news.length * sz ∧ (news.length ≠ 0 → ∃ b, ad = some b ∧ ∀ (j : Nat) (u : Value), vs[j]? = some u → E.w.cell? (b.add j) = some u) ∧
   Uni sz news ∧ (∀ X : BSet, (∀ q, X q → E.own r q) → Reps E.w (fun q => E.D q ∨ (fl = false ∧ Between E o1 o2 q ∧ ¬ X q)) fl (news.flatMap V.cells) vs T) ∧ (∀ q, T q → Between E o1 o2 q ∧ ¬ E.own r q) := by
 have eo := hE.eo
 have ew := hE.ew
 have hg := hE.good
 -- a part of a row
 have part : ∀ r2 off len own2 L2, E.objs r2 = some (.row own2 sz L2) → AvRep E (.sl r2 off len) v →
   ∃ ad c vs, v = .slice ad len c ∧ vs.length = len * sz ∧ (len ≠ 0 → ∃ b, ad = some b ∧ ∀ (j : Nat) (u : Value), vs[j]? = some u → E.w.cell? (b.add j) = some u) ∧ Uni sz ((L2.drop off).take len) ∧ Reps E.w E.D own2 (((L2.drop off).take len).flatMap V.cells) vs (E.S r2) ∧ ((L2.drop off).take len).length = len := by
  intro r2 off len own2 L2 ho hav
  obtain ⟨ad, c, vs, rfl, hlc, hm, hvl, hrv, hu, hle, hpl⟩ := part_cells hg hav ho
  refine ⟨ad, c, vs, rfl, hvl, ?_, hu, hrv, by simp; omega⟩
  intro hne
  rcases hpl with ⟨rfl, rfl⟩ | ⟨g, o, cur, e, hl, rfl, hh, hs, hcells⟩
  ·omega
  ·refine ⟨_, rfl, fun j u hj => ?_⟩
   rw [addr_add]
   simp [World.cell?, hh, hcells j u hj]
 -- elements that hold no slices
 have plain : ∀ {o : Bool} {D S : BSet} {D' : BSet} {o' : Bool} {vs : List Value}, Reps E.w D o (news.flatMap V.cells) vs S → news.all V.plain = true → Reps E.w D' o' (news.flatMap V.cells) vs Emp := by
  intro o D S D' o' vs h hp
  refine scalars_any h ?_
  intro c hc
  obtain ⟨x, hx, hcx⟩ := List.mem_flatMap.1 hc
  have := List.all_eq_true.1 hp x hx
  cases x <;> simp_all [V.plain, V.cells, V.scalar]
 unfold srcOf at hs
 split at hs
 ·rename_i r2 off len
  split at hs
  ·rename_i own2 sz2 L2 ho2
   split at hs
   ·cases hs
   ·rename_i hne
    have hne1 : r2 ≠ r := fun h => hne (.inl h)
    have hsz : sz2 = sz := Classical.byContradiction fun h => hne (.inr h)
    subst hsz
    have hl2 : live (o1 r2) = true := by rw [ho2]; rfl
    have hE2 : E.objs r2 = some (.row own2 sz2 L2) := by rw [← (hd1.live hl2).1]; exact ho2
    obtain ⟨ad, c, vs, hv, hvl, hsrc, hu, hrv, hlen⟩ := part r2 off len own2 L2 hE2 hy
    split at hs
    ·simp only [Option.some.injEq, Prod.mk.injEq] at hs
     obtain ⟨rfl, rfl, rfl⟩ := hs
     have hbt : ∀ q, E.S r2 q → Between E o1 (upd o1 r2 (some .dead)) q := fun q hq => ⟨r2, hl2, upd_same _ _ _, .inl hq⟩
     refine ⟨dies_upd hl2, by rw [upd_ne (fun h => hne1 h.symm)]; exact hl1, ad, c, vs, fun q => own2 = true ∧ E.S r2 q, by rw [hlen]; exact hv, by rw [hlen]; exact hvl, by rw [hlen]; exact hsrc, hu, ?_, ?_⟩
     ·intro X hX
      cases own2 with
      | true => exact (hrv.keep (fun q hq => ⟨.inl hq, rfl⟩) (fun _ _ _ => rfl)).wide (fun q hq => ⟨rfl, hq⟩)
      | false => exact (hrv.keep (fun q hq => ⟨.inl hq, rfl⟩) (fun h => by cases h)).ro
     ·rintro q ⟨_, hq⟩
      exact ⟨hbt q hq, fun ho => hg.apart r2 r hne1 (live_row hE2) hlr q (.inl hq) ho⟩
    ·split at hs
     ·rename_i hall
      simp only [Option.some.injEq, Prod.mk.injEq] at hs
      obtain ⟨rfl, rfl, rfl⟩ := hs
      exact ⟨Dies.refl _, hl1, ad, c, vs, Emp, by rw [hlen]; exact hv, by rw [hlen]; exact hvl, by rw [hlen]; exact hsrc, hu, fun X hX => plain hrv hall, fun _ h => h.elim⟩
     ·cases hs
  ·cases hs
 ·split at hs
  ·rename_i sz2 L2
   split at hs
   ·cases hs
   ·rename_i hne
    have hsz : sz2 = sz := Classical.byContradiction fun h => hne h
    subst hsz
    simp only [Option.some.injEq, Prod.mk.injEq] at hs
    obtain ⟨rfl, rfl, rfl⟩ := hs
    cases hy with
    | val0 h =>
     have main : ∃ ad c vs, v = .slice ad L2.length c ∧ vs.length = L2.length * sz2 ∧ (L2.length ≠ 0 → ∃ b, ad = some b ∧ ∀ (j : Nat) (u : Value), vs[j]? = some u → E.w.cell? (b.add j) = some u) ∧ Uni sz2 L2 ∧ Reps E.w E.D false (L2.flatMap V.cells) vs Emp := by
      cases h with
      | nil => exact ⟨_, _, [], rfl, by simp, by simp, by intro x hx; simp at hx, by simpa using Reps.nil⟩
      | slro hD hb hu h hc hm => exact ⟨_, _, _, rfl, by rw [← h.length, hu.flat_length], fun _ => ⟨_, rfl, fun j u hj => by rw [addr_add]; exact blk_cell hb hj⟩, hu, h⟩
     obtain ⟨ad, c, vs, hv, hvl, hsrc, hu, hrv⟩ := main
     refine ⟨Dies.refl _, hl1, ad, c, vs, Emp, hv, hvl, hsrc, hu, ?_, fun _ h => h.elim⟩
     intro X hX
     cases hall : L2.all V.plain with
     | true => exact plain hrv hall
     | false => exact (hrv.keep (fun q hq => ⟨.inl hq, rfl⟩) (fun h => by cases h)).ro
  ·cases hs
 ·split at hs
  ·rename_i q0 _ sz2 L2
   split at hs
   ·cases hs
   ·rename_i hne
    simp only [Option.some.injEq, Prod.mk.injEq] at hs
    obtain ⟨rfl, rfl, rfl⟩ := hs
    have hsz : sz2 = sz := Classical.byContradiction fun h => hne (.inl h)
    subst hsz
    have hlq : live (E.objs q0) = true := by
     cases hq : live (o1 q0) with
     | true => exact (hd1.live hq).2
     | false => exact absurd (.inr (.inl hq)) hne
    have hall : L2.all V.plain = true := by
     cases hq : L2.all V.plain with
     | true => rfl
     | false => exact absurd (.inr (.inr hq)) hne
    cases hy with
    | val1 hr h0 =>
     have h := h0 hlq
     clear h0
     have main : ∃ ad c vs, v = .slice ad L2.length c ∧ vs.length = L2.length * sz2 ∧ (L2.length ≠ 0 → ∃ b, ad = some b ∧ ∀ (j : Nat) (u : Value), vs[j]? = some u → E.w.cell? (b.add j) = some u) ∧ Uni sz2 L2 ∧ Reps E.w (fun g => E.D g ∨ E.S q0 g) false (L2.flatMap V.cells) vs Emp := by
      cases h with
      | nil => exact ⟨_, _, [], rfl, by simp, by simp, by intro x hx; simp at hx, by simpa using Reps.nil⟩
      | slro hD hb hu h hc hm => exact ⟨_, _, _, rfl, by rw [← h.length, hu.flat_length], fun _ => ⟨_, rfl, fun j u hj => by rw [addr_add]; exact blk_cell hb hj⟩, hu, h⟩
     obtain ⟨ad, c, vs, hv, hvl, hsrc, hu, hrv⟩ := main
     exact ⟨Dies.refl _, hl1, ad, c, vs, Emp, hv, hvl, hsrc, hu, fun X hX => plain hrv hall, fun _ h => h.elim⟩
  ·cases hs
 ·cases hs
theorem appTo_rep (hE : SimE N w0 D0 E st a w) {E1 : Env} {st1 : St} (hE1 : SimE N w0 D0 E1 st1 a w) {t ty e : TypeId} {i : TypeInfo} {z : Value} (ht : P.underlying t = some (.slice e)) (hi : P.info? e = some i) (hz : i.zero = some z) (hzs : z.cells.size = i.size)
  {r off len id : Nat} {own : Bool} {L : List V} {x v : Value} (hx : AvRep E1 (.sl r off len) x) (ho : st1.objs r = some (.row own i.size L)) (hf : st1.objs id = none) {y : AV} (hy : AvRep E1 y v) {mv : Bool} {av : AV} {ob : Objs}
  (he : appTo id r off len own L st1.objs y i.size i.bytes mv = some (av, ob)) :
  ∃ z w' E', (Builtin.append_ #[t, t] ty #[x, v]).run P w = .ok z w' ∧ E1.Le E' ∧ Good w0 D0 E' ∧ E'.w = w' ∧ E'.objs = ob ∧ AvRep E' av z := by
 have eo := hE1.eo
 have ew := hE1.ew
 have hg := hE1.good
 unfold appTo at he
 split at he
 ·rename_i news fl o2 hs
  split at he
  ·rename_i hb
   simp only [Option.some.injEq, Prod.mk.injEq] at he
   obtain ⟨rfl, rfl⟩ := he
   have ho' : E1.objs r = some (.row own i.size L) := by rw [eo]; exact ho
   have hd0 : Dies E1.objs st1.objs := by rw [eo]; exact Dies.refl _
   obtain ⟨d2, l2, ad, c, vs, T, rfl, hvl, hsrc, hu, hR, hT⟩ := srcOf_rep hE1 hd0 hy (live_row ho') (by rw [ho]; rfl) hs
   have hd : Dies E1.objs (upd o2 r (some .dead)) := (hd0.trans d2).trans (dies_upd l2)
   have hbt : ∀ q, Between E1 st1.objs o2 q → Gone E1 (upd o2 r (some .dead)) q := by
    rintro q ⟨r', h1, h2, h3⟩
    refine ⟨r', by rw [eo]; exact h1, ?_, h3⟩
    by_cases e : r' = r
    ·subst e; exact upd_same _ _ _
    ·rw [upd_ne e]; exact h2
   have hones : ∀ u ∈ vs, u.oneCell' = true := Reps.ones (hR (fun _ => False) (fun _ h => h.elim)) hu.flat_one
   obtain ⟨z', w', E', h1, h2, h3, h4, h5, h6⟩ := append_core (ty := ty) (P := P) hg ht hi hz hzs hx ho' hd (upd_same _ _ _) (id := id) (by rw [eo]; exact hf) (fl := own && fl) (ad2 := ad) (m := news.length) (c2 := c) (news := vs) (L2 := news) rfl hu hvl hsrc hones
    (fun h => (Bool.and_eq_true _ _ ▸ h : own = true ∧ fl = true).1) (fun q => (own && fl) = true ∧ T q) (by
     have hR' := hR (E1.own r) (fun _ h => h)
     cases fl with
     | true =>
      cases own with
      | true => exact (hR'.keep (fun q hq => ⟨hq.imp (fun h => h) (fun h => by simp at h), rfl⟩) (fun _ _ _ => rfl)).wide (fun q hq => ⟨rfl, hq⟩)
      | false => exact Reps.lend (fun q hq => hq.imp (fun h => h) (fun h => by simp at h)) hR' (fun _ q hq => .inr ⟨rfl, hbt q (hT q hq).1, (hT q hq).2⟩) |>.ro
     | false =>
      have e : (own && false) = false := by simp
      rw [e]
      exact (hR'.keep (fun q hq => ⟨hq.imp (fun h => h) (fun h => ⟨rfl, hbt q h.2.1, h.2.2⟩), rfl⟩) (fun h => by cases h)).ro)
    (fun q hq => ⟨hbt q (hT q hq.2).1, (hT q hq.2).2⟩) (by simp only [maxLen]; omega) hb.2
   rw [ew] at h1
   exact ⟨z', w', E', h1, h2, h3, h4, h5, h6⟩
  ·cases he
 ·cases he
theorem inApp_rep (hE : SimE N w0 D0 E st a w) {t ty e : TypeId} {i : TypeInfo} (ht : P.underlying t = some (.slice e)) (hi : P.info? e = some i) {r off len : Nat} {own : Bool} {L : List V} {x y : Value} {c : AV} (hx : AvRep E (.sl r off len) x) (ho : st.objs r = some (.row own i.size L)) (hy : AvRep E c y)
  {av : AV} {ob : Objs} (he : inApp st r off len own i.size L c = some (av, ob)) : ∃ z E', (Builtin.append_ #[t, t] ty #[x, y]).run P w = .ok z E'.w ∧ E.Le E' ∧ Good w0 D0 E' ∧ E'.objs = ob ∧ AvRep E' av z := by
 have eo := hE.eo
 have ew := hE.ew
 have hg := hE.good
 have ho' : E.objs r = some (.row own i.size L) := by rw [eo]; exact ho
 unfold inApp at he
 split at he
 ·rename_i r2 off2 len2
  split at he
  ·rename_i hcond
   obtain ⟨rfl, hs0, c1, c2, c3⟩ := hcond
   simp only [Option.some.injEq, Prod.mk.injEq] at he
   obtain ⟨rfl, rfl⟩ := he
   obtain ⟨ad, c, rfl, hcap⟩ := slice_room hg hx ho'
   obtain ⟨ad2, cc2, vs2, rfl, hlc2, hcm2, hvl2, hrv2, huv2, hle2, hpl2⟩ := part_cells hg hy ho'
   obtain ⟨ad1, cc1, vs1, hx1, hlc1, hcm1, hvl1, hrv1, huv1, hle1, hpl1⟩ := part_cells hg hx ho'
   simp only [Value.slice.injEq, true_and] at hx1
   obtain ⟨rfl, rfl⟩ := hx1
   by_cases h0 : len2 = 0
   ·subst h0
    refine ⟨_, E, by rw [ew]; exact run_append_zero ht hi ad len c hlc1 ad2 cc2, Env.Le.refl E, hg, ?_, hx⟩
    rw [eo]
    funext q
    by_cases e : q = r2
    ·subst e; rw [upd_same, ho]; simp
    ·rw [upd_ne e]
   ·have hs1 := hs0
    rcases hpl1 with ⟨q1, _⟩ | ⟨g, o, cur, e', hl, rfl, hh, hs, hcells⟩
    ·omega
    rcases hpl2 with ⟨q2, _⟩ | ⟨g', o', cur', e2', hl', rfl, hh', hs', hcells'⟩
    ·omega
    rw [hl] at hl'
    simp only [Option.some.injEq, Prod.mk.injEq] at hl'
    obtain ⟨rfl, rfl⟩ := hl'
    rw [hh] at hh'
    simp only [Option.some.injEq, Obj.cells.injEq, and_true] at hh'
    obtain ⟨rfl, rfl⟩ := hh'
    have hM : Reps E.w E.D own (((L.drop off2).take len2).flatMap V.cells) vs2 Emp := by
     refine scalars_any hrv2 ?_
     intro c' hc2
     obtain ⟨y, hy, hcy⟩ := List.mem_flatMap.1 hc2
     have := List.all_eq_true.1 c3 y hy
     cases y <;> simp_all [V.plain, V.cells, V.scalar]
    have hlen2 : ((L.drop off2).take len2).length = len2 := by simp; omega
    have hpos : 0 < vs2.length := by rw [hvl2]; exact Nat.mul_pos (by omega) (by omega)
    obtain ⟨E', le, g', hw, hob, hfit⟩ := write_row hg (k := off + len) ho' hl hM huv2 (by rw [hlen2]; omega) hpos hh
    rw [hlen2] at hob
    refine ⟨.slice (some ⟨g, o + off * i.size, none⟩) (len + len2) c, E', ?_, le, g', by rw [hob, eo], ?_⟩
    ·have hrun := run_append_room' (P := P) (w := E.w) (ty := ty) ht hi g (o + off * i.size) len c cur e' hh ⟨g, o + off2 * i.size, none⟩ len2 cc2 vs2 hvl2 (fun j u hj => by
      rw [addr_add]
      exact blk_cell (vs := vs2) ⟨cur, e', _, hh, hcells'⟩ hj) (Reps.ones hM huv2.flat_one) (by omega) (by rw [Nat.add_mul] at hfit; omega)
     rw [hw, ← ew, hrun]
     have : o + off * i.size + len * i.size = o + (off + len) * i.size := by rw [Nat.add_mul]; omega
     rw [this]
    ·have hle' := hx.le le
     cases hle' with
     | sl hr h =>
      refine .sl hr ?_
      intro own' sz' L' hL'
      obtain ⟨k1, k2⟩ := h own' sz' L' hL'
      rw [hob, upd_same] at hL'
      simp only [Option.some.injEq, Root.row.injEq] at hL'
      obtain ⟨rfl, rfl, rfl⟩ := hL'
      have hlL : (L.take (off + len) ++ (L.drop off2).take len2 ++ L.drop (off + len + len2)).length = L.length := by simp; omega
      refine ⟨by rw [hlL]; omega, ?_⟩
      unfold SlAt at k2 ⊢
      split at k2
      ·obtain ⟨⟨_, h⟩, _⟩ := k2
       simp only [Value.slice.injEq] at h
       omega
      ·obtain ⟨a', c', hx', q1, q2, q3, q4, q5, cu, et, q6, q7⟩ := k2
       simp only [Value.slice.injEq, true_and] at hx'
       obtain ⟨rfl, rfl⟩ := hx'
       exact ⟨_, _, rfl, by omega, q2, q3, q4, q5, cu, et, q6, q7⟩
  ·cases he
 ·cases he
theorem eff_clr (hE : SimE N w0 D0 E st a w) {id : Nat} {c : Call} {ty : TypeId} {m : FO} (hc : compClr P c = some m) {av : AV} {ob : Objs} (he : eff st id m = some (av, ob)) :
  ∃ E' v, E.Le E' ∧ Good w0 D0 E' ∧ E'.objs = ob ∧ (do let d ← resolve a.eval c ty; invoke d.target d.args).run P w = .ok (.value v) E'.w ∧ AvRep E' av v := by
 have eo := hE.eo
 have ew := hE.ew
 have hg := hE.good
 obtain ⟨callee, args, argTypes⟩ := c
 obtain ⟨args⟩ := args
 obtain ⟨argTypes⟩ := argTypes
 unfold compClr at hc
 simp only at hc
 split at hc
 ·split at hc
  ·rename_i p t
   split at hc
   ·rename_i e ht
    split at hc
    ·rename_i i hi
     split at hc
     ·rename_i z hz
      split at hc
      ·rename_i zv x hzv hx
       split at hc
       ·rename_i hzs
        simp only [Option.some.injEq] at hc; subst hc
        simp only [eff] at he
        split at he
        ·rename_i r off len hq
         split at he
         ·rename_i own sz' L ho
          split at he
          ·rename_i hcond
           obtain ⟨rfl, hs0, hlen⟩ := hcond
           simp only [Option.some.injEq, Prod.mk.injEq] at he
           obtain ⟨rfl, rfl⟩ := he
           have hgx := get_rep hE hx
           rw [hq] at hgx
           have ho' : E.objs r = some (.row own i.size L) := by rw [eo]; exact ho
           have fin : ∀ {v : Value} {w' : World}, (Builtin.clear_ #[t] ty #[a.eval p]).run P w = .ok v w' → (do let d ← resolve a.eval { callee := .builtin .clear, args := ⟨[p]⟩, argTypes := ⟨[t]⟩ } ty; invoke d.target d.args).run P w = .ok (.value v) w' := by
            intro v w' h
            simp [resolve, invoke, builtin, h]
           obtain ⟨ad, c, vs, hxv, hlc, hcm, hvl, hrv, huv, hle, hpl⟩ := part_cells hg hgx ho'
           by_cases h0 : len = 0
           ·subst h0
            refine ⟨E, .tuple #[], Env.Le.refl E, hg, ?_, fin ?_, by simpa [AV.undef] using AvRep.tup (E := E) AvReps.nil⟩
            ·rw [eo]
             funext q
             by_cases e : q = r
             ·subst e; rw [upd_same, ho]; simp
             ·rw [upd_ne e]
            ·rw [hxv, ew]
             cases ad <;> simp [Builtin.clear_, run_under ht]
           ·rcases hpl with ⟨q1, _⟩ | ⟨g, o, cur, e', hl, rfl, hh, hs, hcells⟩
            ·omega
            have hzrep : Rep E.w E.D own (szV (cellSz P 6 e) zv) z Emp := ofConst_szO _ hzv
            have hzc := hzrep.cells
            have hU : Uni i.size (List.replicate len (szV (cellSz P 6 e) zv)) := by
             intro y hy
             obtain ⟨_, rfl⟩ := List.mem_replicate.1 hy
             exact ⟨by rw [hzc.1.length]; simpa using hzs, hzc.2⟩
            have hR := reps_replicate hzrep len
            have hns : (Builtin.zeroCells z.cells len).toList = (List.replicate len z).flatMap fun y => y.cells.toList := by
             have hl1 : ((List.replicate len z).flatMap fun y => y.cells.toList).length = len * i.size := by
              rw [← hR.length, hU.flat_length, List.length_replicate]
             apply List.ext_getElem?
             intro j
             by_cases hj : j < len * i.size
             ·have hsome : ((List.replicate len z).flatMap fun y => y.cells.toList)[j]? = some (((List.replicate len z).flatMap fun y => y.cells.toList)[j]'(by rw [hl1]; exact hj)) := List.getElem?_eq_getElem _
              obtain ⟨q1, q2⟩ := replicate_cells hzs _ j _ hsome
              rw [hsome]
              have hmod : j % i.size < z.cells.size := by
               rw [hzs]
               exact Nat.mod_lt _ (by
                rcases Nat.eq_zero_or_pos i.size with h | h
                ·rw [h] at hj; omega
                ·exact h)
              rw [Array.getElem?_eq_getElem hmod] at q2
              simp only [Option.some.injEq] at q2
              simp only [Builtin.zeroCells, Array.toList_map, Array.toList_range, List.getElem?_map, List.getElem?_range, hzs, hj, Option.map_some, if_true, List.getElem?_range hj]
              rw [getElem!_pos z.cells _ hmod, q2]
             ·rw [List.getElem?_eq_none (l := (Builtin.zeroCells z.cells len).toList) (by simp [Builtin.zeroCells, hzs]; omega), List.getElem?_eq_none (l := (List.replicate len z).flatMap fun y => y.cells.toList) (by rw [hl1]; omega)]
            have hpos : 0 < ((List.replicate len z).flatMap fun y => y.cells.toList).length := by
             rw [← hR.length, hU.flat_length, List.length_replicate]; exact Nat.mul_pos (by omega) (by omega)
            obtain ⟨E', le, g', hw, hob, hfit⟩ := write_row hg (k := off) ho' hl hR hU (by simpa using hlen) hpos hh
            rw [List.length_replicate] at hob
            refine ⟨E', .tuple #[], le, g', by rw [hob, eo], fin ?_, by simpa [AV.undef] using AvRep.tup (E := E') AvReps.nil⟩
            have hst := run_storeCells_at P g (o + off * i.size) e' ((List.replicate len z).flatMap fun y => y.cells.toList) 0 cur E.w hh (by simpa using hfit) (Reps.ones hR hU.flat_one)
            simp only [Nat.add_zero] at hst
            rw [hxv, ← ew, hw]
            obtain ⟨m, rfl⟩ : ∃ m, len = m + 1 := ⟨len - 1, by omega⟩
            rw [← hns] at hst ⊢
            have hzv' : (zeroValue e).run P E.w = .ok z E.w := zero_run (by unfold zeroOf; rw [hi]; exact hz)
            simp [Builtin.clear_, run_under ht, hzv', hst]
          ·cases he
         ·cases he
        ·cases he
       ·cases hc
      ·cases hc
     ·cases hc
    ·cases hc
   ·cases hc
  ·cases hc
 ·cases hc
theorem eff_app (hE : SimE N w0 D0 E st a w) {id : Nat} (hf : ∀ k, k < 64 → st.objs (id + k) = none) {c : Call} {ty : TypeId} {mv : Bool} {m : FO} (hc : compApp P c mv = some m) {av : AV} {ob : Objs} (he : eff st id m = some (av, ob)) :
  ∃ E' v, E.Le E' ∧ Good w0 D0 E' ∧ E'.objs = ob ∧ (do let d ← resolve a.eval c ty; invoke d.target d.args).run P w = .ok (.value v) E'.w ∧ AvRep E' av v := by
 have eo := hE.eo
 have ew := hE.ew
 obtain ⟨callee, args, argTypes⟩ := c
 obtain ⟨args⟩ := args
 obtain ⟨argTypes⟩ := argTypes
 unfold compApp at hc
 simp only at hc
 split at hc
 ·split at hc
  ·rename_i p q t t'
   split at hc
   ·rename_i htt
    subst htt
    split at hc
    ·rename_i e ht
     split at hc
     ·rename_i i hi
      split at hc
      ·rename_i z hz
       split at hc
       ·rename_i x y hx hy
        split at hc
        ·rename_i hzs
         simp only [Option.some.injEq] at hc; subst hc
         have hgx := get_rep hE hx
         have hgy := get_rep hE hy
         have fin : ∀ {z : Value} {w' : World}, (Builtin.append_ #[t, t] ty #[a.eval p, a.eval q]).run P w = .ok z w' → (do let d ← resolve a.eval { callee := .builtin .append, args := ⟨[p, q]⟩, argTypes := ⟨[t, t]⟩ } ty; invoke d.target d.args).run P w = .ok (.value z) w' := by
          intro z w' h
          simp [resolve, invoke, builtin, h]
         simp only [eff] at he
         split at he
         ·rename_i _ sz0
          have hp : a.eval p = .slice none 0 0 := by
           unfold compX at hx
           split at hx
           ·cases hx
           ·obtain ⟨v0, hv0, h0⟩ := Option.map_eq_some_iff.1 hx
            simp only [X.c.injEq] at h0
            subst h0
            unfold ofConst at hv0
            split at hv0
            ·obtain ⟨_, _, h1⟩ := Option.map_eq_some_iff.1 hv0
             cases h1
            ·unfold ofConst1 at hv0
             split at hv0 <;> simp at hv0
             rfl
           ·cases hx
           ·cases hx
          obtain ⟨E1, le1, g1, w1, o1, r1⟩ := mk_nil hE.good (id := id + 1) (sz := i.size) (by rw [eo]; exact hf 1 (by omega)) none
          have hE1 : SimE N w0 D0 E1 { st with objs := upd st.objs (id + 1) (some (.row true i.size [])), lk := none } a w :=
           ⟨g1, by rw [w1, ew], by rw [o1, eo], hE.size, hE.defers, fun t => (hE.tmps t).le le1, hE.fix, fun _ _ _ _ h => by cases h⟩
          obtain ⟨z', w', E', h1, h2, h3, h4, h5, h6⟩ := appTo_rep (ty := ty) hE hE1 ht hi hz hzs (r := id + 1) (off := 0) (len := 0) (x := .slice none 0 0) r1 (upd_same _ _ _) (by
           show upd st.objs (id + 1) _ id = none
           rw [upd_ne (by omega)]
           simpa using hf 0 (by omega)) (hgy.le le1) he
          subst h4
          rw [hp] at fin
          exact ⟨E', z', le1.trans h2, h3, h5, fin h1, h6⟩
         ·split at he
          ·rename_i r off len hq
           split at he
           ·rename_i own sz' L ho
            split at he
            ·rename_i hsz
             subst hsz
             rw [hq] at hgx
             split at he
             ·rename_i pr hap
              simp only [Option.some.injEq] at he; subst he
              obtain ⟨z', w', E', h1, h2, h3, h4, h5, h6⟩ := appTo_rep (ty := ty) hE hE ht hi hz hzs hgx ho (by simpa using hf 0 (by omega)) hgy hap
              subst h4
              exact ⟨E', z', h2, h3, h5, fin h1, h6⟩
             ·obtain ⟨z', E', h1, h2, h3, h5, h6⟩ := inApp_rep (ty := ty) hE ht hi hgx ho hgy he
              exact ⟨E', z', h2, h3, h5, fin h1, h6⟩
            ·cases he
           ·cases he
          ·cases he
        ·cases hc
       ·cases hc
      ·cases hc
     ·cases hc
    ·cases hc
   ·cases hc
  ·cases hc
 ·cases hc
theorem eff_app0 (hE : SimE N w0 D0 E st a w) {id : Nat} (hf : ∀ k, k < 64 → st.objs (id + k) = none) {c : Call} {ty : TypeId} {mv : Bool} {x y : X} {sz by_ : Nat} (hc : compApp P c mv = some (.app x y sz by_ false)) {av : AV} {ob : Objs} (he : eff st id (.app0 x y sz by_) = some (av, ob)) :
  ∃ E' v, E.Le E' ∧ Good w0 D0 E' ∧ E'.objs = ob ∧ (do let d ← resolve a.eval c ty; invoke d.target d.args).run P w = .ok (.value v) E'.w ∧ AvRep E' av v := by
 have eo := hE.eo
 have ew := hE.ew
 obtain ⟨callee, args, argTypes⟩ := c
 obtain ⟨args⟩ := args
 obtain ⟨argTypes⟩ := argTypes
 unfold compApp at hc
 simp only at hc
 split at hc
 ·split at hc
  ·rename_i p q t t'
   split at hc
   ·rename_i htt
    subst htt
    split at hc
    ·rename_i e ht
     split at hc
     ·rename_i i hi
      split at hc
      ·rename_i z hz
       split at hc
       ·rename_i x y hx hy
        split at hc
        ·rename_i hzs
         simp only [Option.some.injEq, FO.app.injEq] at hc
         obtain ⟨rfl, rfl, rfl, rfl, rfl⟩ := hc
         have hgx := get_rep hE hx
         have hgy := get_rep hE hy
         have fin : ∀ {z : Value} {w' : World}, (Builtin.append_ #[t, t] ty #[a.eval p, a.eval q]).run P w = .ok z w' → (do let d ← resolve a.eval { callee := .builtin .append, args := ⟨[p, q]⟩, argTypes := ⟨[t, t]⟩ } ty; invoke d.target d.args).run P w = .ok (.value z) w' := by
          intro z w' h
          simp [resolve, invoke, builtin, h]
         simp only [eff] at he
         split at he
         ·rename_i hq
          rw [hq] at hgx
          obtain ⟨ad, hp⟩ : ∃ ad, a.eval p = .slice ad 0 0 := by
           generalize a.eval p = v at hgx
           cases hgx with
           | e0 => exact ⟨_, rfl⟩
          obtain ⟨E1, le1, g1, w1, o1, r1⟩ := mk_nil hE.good (id := id + 1) (sz := i.size) (by rw [eo]; exact hf 1 (by omega)) ad
          have hE1 : SimE N w0 D0 E1 { st with objs := upd st.objs (id + 1) (some (.row true i.size [])), lk := none } a w :=
           ⟨g1, by rw [w1, ew], by rw [o1, eo], hE.size, hE.defers, fun t => (hE.tmps t).le le1, hE.fix, fun _ _ _ _ h => by cases h⟩
          obtain ⟨z', w', E', h1, h2, h3, h4, h5, h6⟩ := appTo_rep (ty := ty) hE hE1 ht hi hz hzs (r := id + 1) (off := 0) (len := 0) (x := .slice ad 0 0) r1 (upd_same _ _ _) (by
           show upd st.objs (id + 1) _ id = none
           rw [upd_ne (by omega)]
           simpa using hf 0 (by omega)) (hgy.le le1) he
          subst h4
          rw [hp] at fin
          exact ⟨E', z', le1.trans h2, h3, h5, fin h1, h6⟩
         ·cases he
        ·cases hc
       ·cases hc
      ·cases hc
     ·cases hc
    ·cases hc
   ·cases hc
  ·cases hc
 ·cases hc
theorem eff_st (hE : SimE N w0 D0 E st a w) {id : Nat} {t : TypeId} {p q : Operand} {m : FO} (hc : compSt P t p q = some m) {av : AV} {ob : Objs} (he : eff st id m = some (av, ob)) :
  ∃ E', E.Le E' ∧ Good w0 D0 E' ∧ E'.objs = ob ∧ (Instr.storeAt t (a.eval p) (a.eval q)).run P w = .ok () E'.w ∧ av = .undef := by
 have eo := hE.eo
 have ew := hE.ew
 unfold compSt at hc
 split at hc
 ·rename_i x v n hx hv hn
  simp only [Option.some.injEq] at hc; subst hc
  have hgx := get_rep hE hx
  have hgv := get_rep hE hv
  simp only [eff] at he
  split at he
  ·rename_i r i f hq
   rw [hq] at hgx
   split at he
   ·rename_i own sz L ho
    split at he
    ·rename_i e hi
     split at he
     ·rename_i u fl o2 hel
      split at he
      ·rename_i hcond
       obtain ⟨c1, c2, c3⟩ := hcond
       simp only [Option.some.injEq, Prod.mk.injEq] at he
       obtain ⟨rfl, rfl⟩ := he
       have hd0 : Dies E.objs st.objs := by rw [eo]; exact Dies.refl _
       obtain ⟨d2, T, hr, hT, _⟩ := elem_rep hE.good hd0 hgv hel
       obtain ⟨w', E', h1, h2, h3, h4, h5⟩ := store_row (P := P) hE.good hgx (by rw [eo]; exact ho) hi (hd0.trans d2) c1 hr (fun q hq => by
        obtain ⟨r', k1, k2, k3⟩ := hT q hq
        exact ⟨r', by rw [eo]; exact k1, k2, k3⟩) c2 (by omega) c3 hn
       rw [ew] at h1
       subst h4
       exact ⟨E', h2, h3, h5, h1, rfl⟩
      ·cases he
     ·cases he
    ·cases he
   ·rename_i cs ho
    split at he
    ·rename_i us hus
     split at he
     ·rename_i hcond
      simp only [Option.some.injEq, Prod.mk.injEq] at he
      obtain ⟨rfl, rfl⟩ := he
      obtain ⟨k1, k2⟩ := cellsAV_rep hE hgv hus
      obtain ⟨w', E', h1, h2, h3, h4, h5⟩ := store_box (P := P) hE.good hgx (by rw [eo]; exact ho) k1 k2 hcond.1 hcond.2 hn
      rw [ew] at h1
      subst h4
      exact ⟨E', h2, h3, by rw [h5, eo], h1, rfl⟩
     ·cases he
    ·cases he
   ·cases he
  ·cases he
 ·cases hc
end
end Go.Ab
