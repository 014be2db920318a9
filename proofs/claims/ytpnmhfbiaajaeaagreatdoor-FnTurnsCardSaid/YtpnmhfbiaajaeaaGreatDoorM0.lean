import Derived.Test.YtpnmhfbiaajaeaaGreatDoorA4
import Derived.MapKept
import Derived.Carry
set_option linter.unusedVariables false
set_option linter.unusedSimpArgs false
namespace Go.Ab
open Go.RowKit Go.MapKept
theorem ents_append : ∀ (i : Nat) (es : List (Sc × Sc)) (k v : Sc), ents i (es ++ [(k, v)]) = ents i es ++ [⟨k.val, v.val, i + es.length⟩]
 | i, [], k, v => rfl
 | i, (k', v') :: es, k, v => by
  simp only [List.cons_append, ents, ents_append (i + 1) es k v, List.length_cons]
  rw [show i + 1 + es.length = i + (es.length + 1) by omega]
theorem ents_get : ∀ (i : Nat) (es : List (Sc × Sc)) (j : Nat), (ents i es)[j]? = (es[j]?).map fun p => ⟨p.1.val, p.2.val, i + j⟩
 | i, [], j => by simp [ents]
 | i, (k, v) :: es, 0 => by simp [ents]
 | i, (k, v) :: es, j + 1 => by
  simp only [ents, List.getElem?_cons_succ, ents_get (i + 1) es j]
  rw [show i + 1 + j = i + (j + 1) by omega]
theorem sameSc_now {d : TypeDesc} {kd : Nat} (h : kdOf d = some kd) {a b : Sc} {t : Bool} (hs : sameSc kd a b = some t) : Instr.sameNow d a.val b.val = some t := by
 unfold kdOf at h
 split at h <;> first | (simp only [Option.some.injEq] at h; subst h) | cases h
 all_goals
  unfold sameSc at hs
  split at hs <;> simp_all [Sc.val, Instr.sameNow]
 rename_i a b
 rw [← hs, Bool.eq_iff_iff, bytes_beq]
 simp
theorem mfind_now {d : TypeDesc} {kd : Nat} (h : kdOf d = some kd) {k : Sc} : ∀ {es : List (Sc × Sc)} {i n : Nat} {r : Option (Nat × Sc)}, mfind kd k es i = some r → Instr.findNow d k.val (ents n es) i = some (r.map fun p => (p.1, p.2.val))
 | [], i, n, r, hf => by simp only [mfind, Option.some.injEq] at hf; subst hf; rfl
 | (k', v) :: es, i, n, r, hf => by
  simp only [mfind] at hf
  split at hf
  ·rename_i hs
   simp only [Option.some.injEq] at hf; subst hf
   simp [ents, Instr.findNow, sameSc_now h hs]
  ·rename_i hs
   simp only [ents, Instr.findNow, sameSc_now h hs]
   exact mfind_now h hf
  ·cases hf
theorem mfind_at {kd : Nat} {k : Sc} : ∀ {es : List (Sc × Sc)} {i : Nat} {j : Nat} {v : Sc}, mfind kd k es i = some (some (j, v)) → i ≤ j ∧ ∃ k', es[j - i]? = some (k', v) ∧ sameSc kd k k' = some true
 | [], i, j, v, hf => by simp [mfind] at hf
 | (k', v') :: es, i, j, v, hf => by
  simp only [mfind] at hf
  split at hf
  ·rename_i hs
   simp only [Option.some.injEq, Prod.mk.injEq] at hf
   obtain ⟨rfl, rfl⟩ := hf
   exact ⟨Nat.le_refl _, k', by simp, hs⟩
  ·obtain ⟨h1, k2, h2, h3⟩ := mfind_at hf
   refine ⟨by omega, k2, ?_, h3⟩
   rw [show j - i = (j - (i + 1)) + 1 by omega]
   simpa using h2
  ·cases hf
theorem sameSc_eq {kd : Nat} {a b : Sc} (h : sameSc kd a b = some true) : a = b := by
 unfold sameSc at h
 split at h
 ·split at h
  ·rename_i hk
   simp only [Option.some.injEq, beq_iff_eq] at h
   subst hk; subst h; rfl
  ·cases h
 ·simp only [Option.some.injEq, beq_iff_eq] at h
  subst h; rfl
 ·simp only [Option.some.injEq, decide_eq_true_eq] at h
  subst h; rfl
 ·cases h
theorem sameBits_sc (n : Nat) (a : Sc) : Instr.sameBits n a.val a.val = true := by
 cases n <;> cases a <;> simp [Sc.val, Instr.sameBits, bytes_beq]
section
variable {P : Program} {w : World}
theorem run_checkSc {k : TypeId} {d : TypeDesc} {kd : Nat} (hk : P.underlying k = some d) (hd : kdOf d = some kd) (em : Bool) (a : Sc) (n : Nat) : (Instr.checkKey em (n + 1) k a.val).run P w = .ok () w := by
 unfold kdOf at hd
 split at hd <;> first | cases hd; done | (cases a <;> simp [Instr.checkKey, Sc.val, run_under hk])
theorem run_findSc {k : TypeId} {d : TypeDesc} {kd : Nat} (hk : P.underlying k = some d) (hd : kdOf d = some kd) {a : Sc} {es : List (Sc × Sc)} {r : Option (Nat × Sc)} (hf : mfind kd a es 0 = some r) :
  (Instr.findKey k a.val (ents 0 es)).run P w = .ok (r.map fun p => (p.1, p.2.val)) w := by
 have := mfind_now (n := 0) hd hf
 simp [Instr.findKey, run_under hk, this]
theorem run_zeroSc {e : TypeId} {z : Sc} (h : zeroSc P e = some z) : (zeroValue e).run P w = .ok z.val w := by
 unfold zeroSc at h
 split at h
 ·rename_i i hi
  split at h
  ·rename_i v hv
   unfold ofSc at h
   split at h <;> first | cases h; done | (simp only [Option.some.injEq] at h; subst h)
   all_goals simp [zeroValue, typeInfo, hi, hv, Sc.val]
  ·cases h
 ·cases h
theorem mapT_inv {t : TypeId} {kd : Nat} {z : Sc} (h : mapT P t = some (kd, z)) : ∃ k e d, P.underlying t = some (.map k e) ∧ P.underlying k = some d ∧ kdOf d = some kd ∧ zeroSc P e = some z := by
 unfold mapT at h
 split at h
 ·rename_i k e ht
  split at h
  ·rename_i d hd
   split at h
   ·rename_i kd' z' h1 h2
    simp only [Option.some.injEq, Prod.mk.injEq] at h
    obtain ⟨rfl, rfl⟩ := h
    exact ⟨k, e, d, ht, hd, h1, h2⟩
   ·cases h
  ·cases h
 ·cases h
theorem run_lookSc {t : TypeId} {kd : Nat} {z : Sc} (ht : mapT P t = some (kd, z)) {g : Nat} {es : List (Sc × Sc)} (hb : w.heap[g]? = some (.map (ents 0 es).toArray es.length)) {a : Sc} {r : Option (Nat × Sc)} (hf : mfind kd a es 0 = some r) (ok : Bool) :
  (Instr.lookup t (.map (some g)) a.val ok).run P w = .ok (match r with
   | some (_, v) => if ok then .tuple #[v.val, .bool true] else v.val
   | none => if ok then .tuple #[z.val, .bool false] else z.val) w := by
 obtain ⟨k, e, d, h1, h2, h3, h4⟩ := mapT_inv ht
 have hfk := run_findSc (w := w) h2 h3 hf
 have hck := run_checkSc (w := w) h2 h3 (ents 0 es).toArray.isEmpty a 9999
 have hz := run_zeroSc (w := w) h4
 cases r with
 | none => cases ok <;> simp [Instr.lookup, run_under h1, Go.MapKept.run_getObj_map hb, hck, hfk, hz, Result.andThen] <;> simp_all
 | some p => cases ok <;> simp [Instr.lookup, run_under h1, Go.MapKept.run_getObj_map hb, hck, hfk, hz, Result.andThen] <;> simp_all
def mput (es : List (Sc × Sc)) (k v : Sc) : Option (Nat × Sc) → List (Sc × Sc)
 | some (j, _) => es.set j (k, v)
 | none => es ++ [(k, v)]
theorem ents_setL {es : List (Sc × Sc)} {j : Nat} {k v : Sc} (hj : j < es.length) : (ents 0 es).modify j (fun e => { key := k.val, val := v.val, born := e.born }) = ents 0 (es.set j (k, v)) := by
 apply List.ext_getElem?
 intro i
 simp only [List.getElem?_modify, ents_get, List.getElem?_set]
 by_cases e : j = i
 ·subst e
  simp [hj, List.getElem?_eq_getElem hj]
 ·simp [e]
theorem run_putSc {t : TypeId} {kd : Nat} {z : Sc} (ht : mapT P t = some (kd, z)) {g : Nat} {es : List (Sc × Sc)} (hb : w.heap[g]? = some (.map (ents 0 es).toArray es.length)) {a v : Sc} {r : Option (Nat × Sc)} (hf : mfind kd a es 0 = some r) :
  (Instr.mapUpdate t (.map (some g)) a.val v.val).run P w = .ok () { w with heap := w.heap.setIfInBounds g (.map (ents 0 (mput es a v r)).toArray (mput es a v r).length) } := by
 obtain ⟨k, e, d, h1, h2, h3, h4⟩ := mapT_inv ht
 have hfk := run_findSc (w := w) h2 h3 hf
 have hck := run_checkSc (w := w) h2 h3 false a 9999
 cases r with
 | none =>
  have e1 : (ents 0 es).toArray.push ⟨a.val, v.val, es.length⟩ = (ents 0 (es ++ [(a, v)])).toArray := by
   rw [ents_append]; simp
  simp only [Option.map_none] at hfk
  simp [Instr.mapUpdate, run_under h1, Go.MapKept.run_getObj_map hb, hck, hfk, Result.andThen, Go.MapKept.run_setObj_map _ hb, mput, e1]
 | some p =>
  obtain ⟨j, v0⟩ := p
  obtain ⟨_, k', h5, h6⟩ := mfind_at hf
  simp only [Nat.sub_zero] at h5
  have hj : j < es.length := (List.getElem?_eq_some_iff.1 h5).1
  have hkk := sameSc_eq h6
  subst hkk
  have hkey : (((ents 0 es).toArray[j]?).map (·.key)).getD a.val = a.val := by
   rw [List.getElem?_toArray, ents_get, h5]; rfl
  have hst : (Instr.keyThatStays a.val a.val).run P w = .ok a.val w := by simp [Instr.keyThatStays, sameBits_sc]
  have hst2 : (Instr.keyThatStays ((Option.map (fun x => x.key) (ents 0 es)[j]?).getD a.val) a.val).run P w = .ok a.val w := by
   rw [ents_get, h5]; exact hst
  simp only [Option.map_some] at hfk
  simp [Instr.mapUpdate, run_under h1, Go.MapKept.run_getObj_map hb, hck, hfk, hst, hst2, Result.andThen, Go.MapKept.run_setObj_map _ hb, mput, ents_setL hj]
def mentry (es : List (Sc × Sc)) (k z : Sc) : Option (Nat × Sc) → List (Sc × Sc) × Nat × Sc
 | some (j, v) => (es, j, v)
 | none => (es ++ [(k, z)], es.length, z)
theorem run_entSc {t : TypeId} {kd : Nat} {z : Sc} (ht : mapT P t = some (kd, z)) {g : Nat} {es : List (Sc × Sc)} (hb : w.heap[g]? = some (.map (ents 0 es).toArray es.length)) {a : Sc} {r : Option (Nat × Sc)} (hf : mfind kd a es 0 = some r) :
  (Instr.mapEntry t (.map (some g)) a.val).run P w = .ok (.tuple #[(mentry es a z r).2.2.val, .int .i64 (mentry es a z r).2.1]) { w with heap := w.heap.setIfInBounds g (.map (ents 0 (mentry es a z r).1).toArray (mentry es a z r).1.length) } := by
 obtain ⟨k, e, d, h1, h2, h3, h4⟩ := mapT_inv ht
 have hfk := run_findSc (w := w) h2 h3 hf
 have hck := run_checkSc (w := w) h2 h3 false a 9999
 have hz := run_zeroSc (w := w) h4
 cases r with
 | none =>
  have e1 : ents 0 es ++ [⟨a.val, z.val, es.length⟩] = ents 0 (es ++ [(a, z)]) := by
   rw [ents_append, Nat.zero_add]
  simp only [Option.map_none] at hfk
  simp [Instr.mapEntry, run_under h1, Go.MapKept.run_getObj_map hb, hck, hfk, hz, Result.andThen, Go.MapKept.run_setObj_map _ hb, mentry, e1, goInt]
 | some p =>
  obtain ⟨j, v0⟩ := p
  obtain ⟨_, k', h5, h6⟩ := mfind_at hf
  simp only [Nat.sub_zero] at h5
  have hj : j < es.length := (List.getElem?_eq_some_iff.1 h5).1
  have hkk := sameSc_eq h6
  subst hkk
  have hst : (Instr.keyThatStays a.val a.val).run P w = .ok a.val w := by simp [Instr.keyThatStays, sameBits_sc]
  have hst2 : (Instr.keyThatStays ((Option.map (fun x => x.key) (ents 0 es)[j]?).getD a.val) a.val).run P w = .ok a.val w := by
   rw [ents_get, h5]; exact hst
  have hsame : (ents 0 es).modify j (fun e => { key := a.val, val := e.val, born := e.born }) = ents 0 es := by
   apply List.ext_getElem?
   intro i
   simp only [List.getElem?_modify]
   by_cases e : j = i
   ·subst e
    simp [ents_get, h5]
   ·simp [e]
  have hborn : (Option.map (fun x => (x.born : Int)) (ents 0 es)[j]?).getD 0 = j := by
   rw [ents_get, h5]; simp
  simp only [Option.map_some] at hfk
  simp [Instr.mapEntry, run_under h1, Go.MapKept.run_getObj_map hb, hck, hfk, hst, hst2, Result.andThen, Go.MapKept.run_setObj_map _ hb, mentry, hsame, goInt, hborn]
theorem ents_find : ∀ (i : Nat) (es : List (Sc × Sc)) (j : Nat), j < es.length → (ents i es).findIdx? (fun e => (e.born : Int) == ((i + j : Nat) : Int)) = some j
 | i, [], j, h => by simp at h
 | i, (k, v) :: es, 0, h => by simp [ents, List.findIdx?_cons]
 | i, (k, v) :: es, j + 1, h => by
  have := ents_find (i + 1) es j (by simpa using h)
  rw [show i + 1 + j = i + (j + 1) by omega] at this
  simp only [ents, List.findIdx?_cons, this]
  have hne : ((i : Int) == ((i + (j + 1) : Nat) : Int)) = false := by
   rw [beq_eq_false_iff_ne]; omega
  simp [hne]
  omega
theorem run_esSc {t : TypeId} {g : Nat} {es : List (Sc × Sc)} (hb : w.heap[g]? = some (.map (ents 0 es).toArray es.length)) {j : Nat} {k v0 : Sc} (hj : es[j]? = some (k, v0)) (v : Sc) (kk : IntKind) :
  (Instr.entryStore t (.map (some g)) (.int kk j) v.val).run P w = .ok () { w with heap := w.heap.setIfInBounds g (.map (ents 0 (es.set j (k, v))).toArray (es.set j (k, v)).length) } := by
 have hjl : j < es.length := (List.getElem?_eq_some_iff.1 hj).1
 have hf := ents_find 0 es j hjl
 rw [Nat.zero_add] at hf
 have e1 : (ents 0 es).modify j (fun e => { key := e.key, val := v.val, born := e.born }) = ents 0 (es.set j (k, v)) := by
  apply List.ext_getElem?
  intro i
  simp only [List.getElem?_modify, ents_get, List.getElem?_set]
  by_cases e : j = i
  ·subst e
   rw [hj]
   simp [hjl]
  ·simp [e]
 have hi : (asInt (.int kk j)).run P w = .ok (j : Int) w := by simp [asInt, asIntOf]
 simp [Instr.entryStore, Go.MapKept.run_getObj_map hb, hi, hf, Result.andThen, Go.MapKept.run_setObj_map _ hb, e1]
end
end Go.Ab
