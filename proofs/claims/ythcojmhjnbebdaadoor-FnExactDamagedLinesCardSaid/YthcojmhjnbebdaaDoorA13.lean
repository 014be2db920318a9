/- Operations that make or change memory: the theorem (own framework). -/
import Derived.Test.YthcojmhjnbebdaaDoorA12
set_option linter.unusedVariables false
set_option linter.unusedSimpArgs false
namespace Go.Ab
open Go.RowKit

def srcOf (r : Nat) (o : Objs) (sz : Nat) (mv : Bool) : AV → Option (List V × Bool × Objs)
  | .sl r2 off len => match o r2 with
    | some (.row own2 sz2 L2) =>
      if r2 = r ∨ sz2 ≠ sz then none
      else if mv = true then some ((L2.drop off).take len, own2, upd o r2 (some .dead))
      else if ((L2.drop off).take len).all V.plain = true then some ((L2.drop off).take len, true, o) else none
    | _ => none
  | .val none v => match v with
    | .sl sz2 L2 => if sz2 ≠ sz then none else some (L2, L2.all V.plain, o)
    | _ => none
  | .val (some q) v => match v with
    | .sl sz2 L2 => if sz2 ≠ sz ∨ live (o q) = false ∨ L2.all V.plain = false then none else some (L2, true, o)
    | _ => none
  | _ => none

def appTo (id r off len : Nat) (own : Bool) (L : List V) (o : Objs) (y : AV) (sz bytes : Nat) (mv : Bool) : Option (AV × Objs) :=
  match srcOf r o sz mv y with
  | some (news, fl, o2) =>
    if len + news.length ≤ 9223372036854775807 ∧ (len + news.length) * bytes ≤ 140737488355328 then
      some (.sl id 0 (len + news.length), upd (upd o2 r (some .dead)) id (some (.row (own && fl) sz ((L.drop off).take len ++ news))))
    else none
  | none => none

/-- append of a part of a row to a part ahead of it, within the row. -/
def inApp (s : St) (r off len : Nat) (own : Bool) (sz : Nat) (L : List V) : AV → Option (AV × Objs)
  | .sl r2 off2 len2 => if r2 = r ∧ 0 < sz ∧ off + len + len2 ≤ L.length ∧ off2 + len2 ≤ L.length ∧ ((L.drop off2).take len2).all V.plain = true then
      some (.sl r off (len + len2), upd s.objs r (some (.row own sz (L.take (off + len) ++ (L.drop off2).take len2 ++ L.drop (off + len + len2))))) else none
  | _ => none

def fillB (s : St) : List (Nat × Nat × X) → List AV → Option (List AV)
  | [], cs => some cs
  | (off, n, x) :: ps, cs => match cellsAV s (s.get x) with
    | some us => if us.length = n ∧ off + n ≤ cs.length then fillB s ps (cs.take off ++ us ++ cs.drop (off + n)) else none
    | none => none

def eff (s : St) (id : Nat) : FO → Option (AV × Objs)
  | .box x => match cellsAV s (s.get x) with
    | some cs => some (.ptr id 0 0, upd s.objs id (some (.box cs)))
    | none => none
  | .alloc zs => if zs.length ≤ 60 then some (.ptr id 0 0, upd (zcells (id + 1) s.objs zs).2 id (some (.box (zcells (id + 1) s.objs zs).1))) else none
  | .bld zs ps => if zs.length ≤ 60 then (match fillB s ps (zcells id s.objs zs).1 with
    | some cs => some (.agg cs, (zcells id s.objs zs).2)
    | none => none) else none
  | .nilrow sz => some (.sl id 0 0, upd s.objs id (some (.row true sz [])))
  | .nilof x sz => match s.get x with
    | .sl r _ _ => match s.objs r with
      | some (.row _ _ _) => some (.sl id 0 0, upd s.objs id (some (.row true sz [])))
      | _ => none
    | y => match s.view y with
      | some (_, .sl _ _) => some (.sl id 0 0, upd s.objs id (some (.row true sz [])))
      | _ => none
  | .bsl sz xs => match elems s.objs (xs.map s.get) with
    | some (L, fl, o2) => if L.all (fun x => x.cells.length == sz) = true then some (.sl id 0 L.length, upd o2 id (some (.row fl sz L))) else none
    | none => none
  | .bslp sz xs => match elemsP (xs.map s.get) with
    | some (L, fl) => if L.all (fun x => x.cells.length == sz) = true then some (.sl id 0 L.length, upd s.objs id (some (.row fl sz L))) else none
    | none => none
  | .mks sz bytes z l c => match asI (s.view (s.get l)), asI (s.view (s.get c)) with
    | some l, some c => if 0 ≤ l ∧ l ≤ c ∧ c ≤ 9223372036854775807 ∧ (bytes : Int) * c ≤ 281474976710656 then some (.sl id 0 l.toNat, upd s.objs id (some (.row true sz (List.replicate l.toNat z)))) else none
    | _, _ => none
  | .app x y sz bytes mv => match x with
    | .c (.sl _ []) => appTo id (id + 1) 0 0 true [] (upd s.objs (id + 1) (some (.row true sz []))) (s.get y) sz bytes mv
    | x => match s.get x with
      | .sl r off len => match s.objs r with
        | some (.row own sz' L) => if sz' = sz then (match appTo id r off len own L s.objs (s.get y) sz bytes mv with
          | some p => some p
          | none => inApp s r off len own sz L (s.get y)) else none
        | _ => none
      | _ => none
  | .mkm => some (.mp id, upd s.objs id (some (.map [])))
  | .mpu kd x k v => match s.get x with
    | .mp r => match s.objs r with
      | some (.map es) => match scOf s (s.get k), scOf s (s.get v) with
        | some a, some b => match mfind kd a es 0 with
          | some q => some (.undef, upd s.objs r (some (.map (mput es a b q))))
          | none => none
        | _, _ => none
      | _ => none
    | _ => none
  | .men kd x k z => match s.get x with
    | .mp r => match s.objs r with
      | some (.map es) => match scOf s (s.get k) with
        | some a => match mfind kd a es 0 with
          | some q => some (.tup [.val none (mentry es a z q).2.2.v, .val none (.int .i64 (mentry es a z q).2.1)], upd s.objs r (some (.map (mentry es a z q).1)))
          | none => none
        | none => none
      | _ => none
    | _ => none
  | .mes x t v => match s.get x with
    | .mp r => match s.objs r with
      | some (.map es) => match asI (s.view (s.get t)), scOf s (s.get v) with
        | some n, some b => if 0 ≤ n then (match es[n.toNat]? with
          | some p => some (.undef, upd s.objs r (some (.map (es.set n.toNat (p.1, b)))))
          | none => none) else none
        | _, _ => none
      | _ => none
    | _ => none
  | .clr x z sz => match s.get x with
    | .sl r off len => match s.objs r with
      | some (.row own sz' L) => if sz' = sz ∧ 0 < sz ∧ off + len ≤ L.length then some (.undef, upd s.objs r (some (.row own sz (L.take off ++ List.replicate len z ++ L.drop (off + len))))) else none
      | _ => none
    | _ => none
  | .st x v n => match s.get x with
    | .ptr r i f => match s.objs r with
      | some (.row own sz L) => match L[i]? with
        | some e => match elem s.objs (s.get v) with
          | some (u, fl, o2) => if live (o2 r) = true ∧ u.cells.length = n ∧ f + n ≤ sz then some (.undef, upd o2 r (some (.row (own && fl) sz (L.set i (patch e f u.cells))))) else none
          | none => none
        | none => none
      | some (.box cs) => match cellsAV s (s.get v) with
        | some us => if us.length = n ∧ f + n ≤ cs.length then some (.undef, upd s.objs r (some (.box (cs.take f ++ us ++ cs.drop (f + n))))) else none
        | none => none
      | _ => none
    | _ => none

/-- A literal whose elements use up nothing may change places with others. -/
def softenF : FO → FO
  | .bsl sz xs => .bslp sz xs
  | m => m
theorem eff_soften {s : St} {id : Nat} {m : FO} {p : AV × Objs} (h : eff s id (softenF m) = some p) : eff s id m = some p := by
  cases m <;> try exact h
  case bsl sz xs =>
    simp only [softenF, eff] at h ⊢
    split at h
    · rename_i L fl he
      rw [elemsP_elems he]
      exact h
    · cases h

section
variable {P : Program} {N : Fr} {w0 : Base} {D0 : BSet} {E : Env} {st : St} {a : Act} {w : World}

theorem ofConst1_repO {D : BSet} {o : Bool} {v : Value} {x : V} (h : ofConst1 v = some x) : Rep w D o x v Emp := by
  unfold ofConst1 at h
  split at h
  all_goals first | (cases h; done) | (simp only [Option.some.injEq] at h; subst h)
  · exact .int _ _
  · exact .bool _
  · exact by simpa using Rep.str (w := w) (D := D) (o := o) (S := Emp) _
  · exact .nil 0
theorem ofConsts_repO {D : BSet} {o : Bool} : ∀ {vs : List Value} {xs : List V}, ofConsts vs = some xs → Reps w D o xs vs Emp
  | [], xs, h => by
    simp only [ofConsts, Option.some.injEq] at h
    subst h
    exact .nil
  | v :: vs, xs, h => by
    simp only [ofConsts] at h
    split at h
    · rename_i x ys hx hy
      simp only [Option.some.injEq] at h
      subst h
      exact .cons (ofConst1_repO hx) (ofConsts_repO hy) (fun _ h => h.elim) (fun _ h => h) (fun _ h => h)
    · cases h
theorem ofConst_repO {D : BSet} {o : Bool} {v : Value} {x : V} (h : ofConst v = some x) : Rep w D o x v Emp := by
  unfold ofConst at h
  split at h
  · rename_i cs
    obtain ⟨xs, hx, rfl⟩ := Option.map_eq_some_iff.1 h
    exact by simpa using Rep.agg (ofConsts_rep (w := w) (D := D) hx).2 (ofConsts_repO (o := o) hx)
  · exact ofConst1_repO h

/-- Many equal elements. -/
theorem reps_replicate {D : BSet} {o : Bool} {z : V} {v : Value} (h : Rep w D o z v Emp) : ∀ n, Reps w D o ((List.replicate n z).flatMap V.cells) ((List.replicate n v).flatMap fun y => y.cells.toList) Emp
  | 0 => by simpa using Reps.nil
  | n + 1 => by
    rw [List.replicate_succ, List.replicate_succ, List.flatMap_cons, List.flatMap_cons]
    exact Reps.append (S1 := Emp) (S2 := Emp) h.cells.1 (reps_replicate h n) (fun _ h => h.elim) (fun _ h => h) (fun _ h => h)

theorem replicate_cells {v : Value} {sz : Nat} (hs : v.cells.size = sz) : ∀ (n j : Nat) (u : Value), ((List.replicate n v).flatMap fun y => y.cells.toList)[j]? = some u → j < n * sz ∧ v.cells[j % sz]? = some u
  | 0, j, u, h => by simp at h
  | n + 1, j, u, h => by
    rw [List.replicate_succ, List.flatMap_cons, List.getElem?_append] at h
    split at h
    · rename_i hlt
      simp only [Array.length_toList, hs] at hlt
      refine ⟨by rw [Nat.succ_mul]; omega, ?_⟩
      rw [Nat.mod_eq_of_lt hlt]
      simpa using h
    · rename_i hge
      simp only [Array.length_toList, hs] at hge h
      obtain ⟨h1, h2⟩ := replicate_cells hs n (j - sz) u h
      refine ⟨by rw [Nat.succ_mul]; omega, ?_⟩
      have : (j - sz) % sz = j % sz := (Nat.mod_eq_sub_mod (by omega)).symm
      rw [← this]
      exact h2

theorem fold_set (off : Nat) (v cells : Array Value) (h : off + v.size ≤ cells.size) :
    (v.zipIdx.foldl (fun cs (c, j) => cs.setIfInBounds (off + j) c) cells) = (cells.toList.take off ++ v.toList ++ cells.toList.drop (off + v.size)).toArray := by
  have gen : ∀ (l : List Value) (k : Nat) (cs : Array Value), off + k + l.length ≤ cs.size → (l.zipIdx k).foldl (fun cs (p : Value × Nat) => cs.setIfInBounds (off + p.2) p.1) cs = (cs.toList.take (off + k) ++ l ++ cs.toList.drop (off + k + l.length)).toArray := by
    intro l
    induction l with
    | nil => intro k cs _; simp
    | cons c l ih =>
      intro k cs hk
      simp only [List.length_cons] at hk
      simp only [List.zipIdx_cons, List.foldl_cons]
      rw [ih (k + 1) _ (by simp; omega)]
      have e := list_seg_step cs.toList (off + k) c l (by simp; omega)
      simp only [Array.toList_setIfInBounds, List.length_cons]
      rw [show off + (k + 1) = off + k + 1 by omega, e]
  have := gen v.toList 0 cells (by simp; omega)
  simp only [Nat.add_zero, Array.length_toList] at this
  rw [← this]
  rw [← Array.foldl_toList]
  simp [Array.toList_zipIdx]

theorem fill_parts {size : Nat} : ∀ (ps : List (Nat × Value)) (i : Nat) (cells : Array Value) (done : List Value), (∀ k p, ps[k]? = some p → p.1 = i + k ∧ p.2.cells.size = size) → done.length = i * size → cells.size = (i + ps.length) * size → cells.toList.take (i * size) = done →
    Instr.fill (fun i => some (i * size, size)) cells ps = some (done ++ ps.flatMap fun p => p.2.cells.toList).toArray
  | [], i, cells, done, h, hd, hc, ht => by
    simp only [Instr.fill, List.flatMap_nil, List.append_nil, Option.some.injEq]
    simp only [List.length_nil, Nat.add_zero] at hc
    rw [← ht, List.take_of_length_le (by simp; omega)]
  | (q, v) :: ps, i, cells, done, h, hd, hc, ht => by
    obtain ⟨hq, hv⟩ := h 0 (q, v) rfl
    simp only [Nat.add_zero] at hq
    subst hq
    simp only at hv
    simp only [List.length_cons] at hc
    have hmul : (q + (ps.length + 1)) * size = q * size + size + ps.length * size := by rw [Nat.add_mul, Nat.add_mul]; omega
    have hfold : (v.cells.zipIdx.foldl (fun cs (c, j) => cs.setIfInBounds (q * size + j) c) cells) = (cells.toList.take (q * size) ++ v.cells.toList ++ cells.toList.drop (q * size + size)).toArray := by
      have gen : ∀ (l : List Value) (k : Nat) (cs : Array Value), q * size + k + l.length ≤ cs.size → (l.zipIdx k).foldl (fun cs (p : Value × Nat) => cs.setIfInBounds (q * size + p.2) p.1) cs = (cs.toList.take (q * size + k) ++ l ++ cs.toList.drop (q * size + k + l.length)).toArray := by
        intro l
        induction l with
        | nil => intro k cs _; simp
        | cons c l ih =>
          intro k cs hk
          simp only [List.length_cons] at hk
          simp only [List.zipIdx_cons, List.foldl_cons]
          rw [ih (k + 1) _ (by simp; omega)]
          have e := list_seg_step cs.toList (q * size + k) c l (by simp; omega)
          simp only [Array.toList_setIfInBounds, List.length_cons]
          rw [show q * size + (k + 1) = q * size + k + 1 by omega, e]
      have := gen v.cells.toList 0 cells (by simp; omega)
      simp only [Nat.add_zero, Array.length_toList, hv] at this
      rw [← this]
      rw [← Array.foldl_toList]
      simp [Array.toList_zipIdx]
    have hcond : ¬ (v.cells.size ≠ size ∨ q * size + v.cells.size > cells.size) := by
      rw [hv]; intro hh
      rcases hh with hh | hh
      · exact hh rfl
      · omega
    have ih := fill_parts ps (q + 1) (cells.toList.take (q * size) ++ v.cells.toList ++ cells.toList.drop (q * size + size)).toArray (done ++ v.cells.toList)
      (fun k p hp => by have := h (k + 1) p (by simpa using hp); exact ⟨by omega, this.2⟩)
      (by simp [hd, hv, Nat.succ_mul]) (by
        have : (q + 1 + ps.length) * size = (q + (ps.length + 1)) * size := by congr 1; omega
        rw [this, hmul]
        simp only [List.size_toArray, List.length_append, List.length_take, List.length_drop, Array.length_toList, hv]
        omega)
      (by
        simp only
        rw [ht, List.take_append_of_le_length (by simp [hd, hv, Nat.succ_mul]), List.take_of_length_le (by simp [hd, hv, Nat.succ_mul])])
    simp only [Instr.fill]
    have hcond' : (decide (v.cells.size ≠ size) || decide (q * size + v.cells.size > cells.size)) = false := by
      simp only [Bool.or_eq_false_iff, decide_eq_false_iff_not]
      exact ⟨fun h => hcond (.inl h), fun h => hcond (.inr h)⟩
    split
    · rename_i hh
      simp only [hcond'] at hh
      cases hh
    · rw [hfold, ih]
      simp
end
end Go.Ab
