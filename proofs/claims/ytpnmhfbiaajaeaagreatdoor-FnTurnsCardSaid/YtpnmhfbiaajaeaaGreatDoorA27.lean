import Derived.Test.YtpnmhfbiaajaeaaGreatDoorA24
import Derived.ChangeOld
import Derived.ChangeArms
import Derived.ChangeShapes
import Derived.WideShapes
import Derived.RowKit
set_option linter.unusedVariables false
set_option linter.unusedSimpArgs false
namespace Go.Ab
open Go.RowKit
inductive CT where
 | int (k : IntKind)
 | bool
 | str
 | sl (sz : Nat) (ag : Bool) (el : List CT)
 deriving Inhabited
mutual
def okC : CT → V → Prop
 | .int k, v => ∃ n, v = .int k n ∧ (Lit.int k n).wf = true
 | .bool, v => ∃ b, v = .bool b
 | .str, v => ∃ s, v = .str s ∧ s.length ≤ maxLen
 | .sl sz ag el, v => ∃ L, v = .sl sz L ∧ L.length ≤ maxLen ∧ ∀ x ∈ L, (if ag = true then x = .agg x.cells else V.one x = true) ∧ okCs el x.cells
def okCs : List CT → List V → Prop
 | [], vs => vs = []
 | c :: cs, vs => ∃ v l, vs = v :: l ∧ okC c v ∧ okCs cs l
end
def tyF (P : Program) (f : TypeId → Option (Bool × List CT)) : Nat → List Field → Option (List CT)
 | _, [] => some []
 | off, fd :: fs => match f fd.type with
  | some (_, l) => if fd.offset = off ∧ P.cellsOf fd.type = l.length then (tyF P f (off + l.length) fs).map (l ++ ·) else none
  | none => none
def tyC (P : Program) : Nat → TypeId → Option (Bool × List CT)
 | 0, _ => none
 | k + 1, t => match P.underlying t with
  | some .bool => some (false, [.bool])
  | some (.int k) => some (false, [.int k])
  | some .string => some (false, [.str])
  | some (.slice e) => match tyC P k e with
   | some (ag, el) => if P.cellsOf e = el.length ∧ 0 < el.length ∧ (ag = false → el.length = 1) then some (false, [.sl el.length ag el]) else none
   | none => none
  | some (.struct fs) => match tyF P (tyC P k) 0 fs.toList with
   | some l => if P.cellsOf t = l.length then some (true, l) else none
   | none => none
  | _ => none
theorem okCs_append : ∀ {a b : List CT} {x y : List V}, okCs a x → okCs b y → okCs (a ++ b) (x ++ y)
 | [], b, x, y, h1, h2 => by simp only [okCs] at h1; subst h1; simpa using h2
 | c :: a, b, x, y, h1, h2 => by
  simp only [okCs] at h1
  obtain ⟨v, l, rfl, h3, h4⟩ := h1
  simp only [List.cons_append, okCs]
  exact ⟨v, l ++ y, rfl, h3, okCs_append h4 h2⟩
section
variable {P : Program} {W : World} {H : Type} {enc : TypeId × Value → H}
def Old (W : World) : BSet := fun g => g < W.heap.size
def Read (W : World) (ag : Bool) (el : List CT) (cs : List Value) : Prop := ∃ vs, Reps W (Old W) false vs cs Emp ∧ okCs el vs ∧ (∀ v ∈ vs, V.one v = true) ∧ cs.length = el.length
theorem add_eq (g o k : Nat) : (⟨g, o, none⟩ : Addr).add k = ⟨g, o + k, none⟩ := by
 unfold Addr.add
 split
 ·rename_i h; subst h; rfl
 ·rfl
theorem read_row {ag : Bool} {el : List CT} {e : TypeId} {n g o : Nat} (hag : ag = false → el.length = 1) (hce : P.cellsOf e = el.length)
  (ih : ∀ cs x, DataW.trod enc P W 0 (fun _ => true) true n e cs = some x → Read W ag el cs) :
  ∀ cnt, (∀ i, i < cnt → ∃ y, (W.cells? 0 ((⟨g, o, none⟩ : Addr).add (i * P.cellsOf e)) (P.cellsOf e)).bind (DataW.trod enc P W 0 (fun _ => true) true n e) = some y) →
  ∃ (L : List V) (vs : List Value), L.length = cnt ∧ Reps W (Old W) false (L.flatMap V.cells) vs Emp ∧ Uni el.length L ∧ (∀ x ∈ L, (if ag = true then x = .agg x.cells else V.one x = true) ∧ okCs el x.cells) ∧ vs.length = cnt * el.length ∧
   ∀ (j : Nat) (u : Value), vs[j]? = some u → W.cell? ⟨g, o + j, none⟩ = some u
 | 0, _ => ⟨[], [], rfl, .nil, (fun x h => by simp at h), (fun x h => by simp at h), by simp, fun j u h => by simp at h⟩
 | cnt + 1, h => by
  obtain ⟨L, vs, h1, h2, h3, h4, h5, h6⟩ := read_row hag hce ih cnt (fun i hi => h i (by omega))
  obtain ⟨y, hy⟩ := h cnt (by omega)
  cases hc : W.cells? 0 ((⟨g, o, none⟩ : Addr).add (cnt * P.cellsOf e)) (P.cellsOf e) with
  | none => rw [hc] at hy; simp at hy
  | some cs =>
   rw [hc] at hy
   simp only [Option.bind_some] at hy
   obtain ⟨ws, r1, r2, r3, r4⟩ := ih cs y hy
   obtain ⟨_, k1, k2⟩ := World.cells?_some hc
   obtain ⟨x, hx, hxc⟩ : ∃ x : V, x.cells = ws ∧ (if ag = true then x = .agg x.cells else V.one x = true) := by
    cases ag with
    | true => exact ⟨.agg ws, rfl, by simp [V.cells]⟩
    | false =>
     have hl := r1.length
     have h1' := hag rfl
     match ws, r2, r3, hl with
     | [], _, _, hl => simp at hl; omega
     | [x], _, r3, _ =>
      have := r3 x (by simp)
      exact ⟨x, by cases x <;> first | rfl | simp [V.one] at this, by simpa using this⟩
     | x :: y :: l, _, _, hl => simp at hl; omega
   refine ⟨L ++ [x], vs ++ cs, by simp [h1], ?_, ?_, ?_, ?_, ?_⟩
   ·rw [List.flatMap_append]
    simp only [List.flatMap_cons, List.flatMap_nil, List.append_nil, hx]
    exact Reps.append (S1 := Emp) (S2 := Emp) h2 r1 (fun _ h => h.elim) (fun _ h => h) (fun _ h => h)
   ·intro z hz
    rcases List.mem_append.1 hz with hz | hz
    ·exact h3 z hz
    ·simp only [List.mem_singleton] at hz; subst hz
     rw [hx]
     exact ⟨by rw [← r4]; exact r1.length, r3⟩
   ·intro z hz
    rcases List.mem_append.1 hz with hz | hz
    ·exact h4 z hz
    ·simp only [List.mem_singleton] at hz; subst hz
     exact ⟨hxc, by rw [hx]; exact r2⟩
   ·rw [List.length_append, h5, r4, Nat.succ_mul]
   ·intro j u hu
    rw [List.getElem?_append] at hu
    split at hu
    ·exact h6 j u hu
    ·rename_i hge
     rw [h5] at hge hu
     have hlt := (List.getElem?_eq_some_iff.1 hu).1
     have := k2 (j - cnt * el.length) (by omega)
     rw [add_eq, add_eq, hu, hce] at this
     rw [← this]
     congr 2
     omega
theorem read_fields {f : TypeId → Option (Bool × List CT)} {g : TypeId → List Value → Option (DataW H × List MemPlace)} (ih : ∀ t ag el cs x, f t = some (ag, el) → g t cs = some x → Read W ag el cs) :
  ∀ (fs : List Field) (off : Nat) (l : List CT) (cs : List Value), tyF P f off fs = some l → (∀ (i : Nat) (fd : Field), fs[i]? = some fd → ∃ x, g fd.type ((cs.drop fd.offset).take (P.cellsOf fd.type)) = some x) → off + l.length = cs.length → Read W true l (cs.drop off)
 | [], off, l, cs, ht, _, hl => by
  simp only [tyF, Option.some.injEq] at ht; subst ht
  simp only [List.length_nil, Nat.add_zero] at hl
  rw [List.drop_of_length_le (by omega)]
  exact ⟨[], .nil, by simp [okCs], by simp, rfl⟩
 | fd :: fs, off, l, cs, ht, hg, hl => by
  simp only [tyF] at ht
  split at ht
  ·rename_i ag el hf
   split at ht
   ·rename_i hk
    obtain ⟨l', hl', rfl⟩ := Option.map_eq_some_iff.1 ht
    obtain ⟨x, hx⟩ := hg 0 fd rfl
    obtain ⟨ws, r1, r2, r3, r4⟩ := ih _ _ _ _ _ hf hx
    obtain ⟨ws', q1, q2, q3, q4⟩ := read_fields ih fs (off + el.length) l' cs hl' (fun i fd' hi => hg (i + 1) fd' (by simpa using hi)) (by simp at hl; omega)
    rw [hk.1, hk.2] at r1 r4
    have hcut : cs.drop off = (cs.drop off).take el.length ++ cs.drop (off + el.length) := by
     rw [← List.drop_drop]
     exact (List.take_append_drop _ _).symm
    rw [hcut]
    refine ⟨ws ++ ws', Reps.append (S1 := Emp) (S2 := Emp) r1 q1 (fun _ h => h.elim) (fun _ h => h) (fun _ h => h), okCs_append r2 q2, ?_, by simp [q4]; simp at r4 q4 hl ⊢; omega⟩
    intro v hv
    rcases List.mem_append.1 hv with hv | hv
    ·exact r3 v hv
    ·exact q3 v hv
   ·cases ht
  ·cases ht
theorem read_cells : ∀ (k : Nat) (fuel : Nat) (t : TypeId) (ag : Bool) (el : List CT) (cs : List Value) (x : DataW H × List MemPlace), tyC P k t = some (ag, el) → DataW.trod enc P W 0 (fun _ => true) true fuel t cs = some x → Read W ag el cs
 | 0, _, _, _, _, _, _, h, _ => by simp [tyC] at h
 | k + 1, fuel, t, ag, el, cs, x, h, hr => by
  simp only [tyC] at h
  split at h
  ·rename_i hu
   simp only [Option.some.injEq, Prod.mk.injEq] at h
   obtain ⟨rfl, rfl⟩ := h
   obtain ⟨b, rfl, _⟩ := DataW.trod_bool hu hr
   exact ⟨[.bool b], .cons (S1 := Emp) (S2 := Emp) (.bool b) .nil (fun _ h => h.elim) (fun _ h => h) (fun _ h => h), ⟨_, _, rfl, ⟨b, rfl⟩, rfl⟩, by simp [V.one], rfl⟩
  ·rename_i kk hu
   simp only [Option.some.injEq, Prod.mk.injEq] at h
   obtain ⟨rfl, rfl⟩ := h
   obtain ⟨n, rfl, _, hw⟩ := DataW.trod_int hu hr
   exact ⟨[.int _ n], .cons (S1 := Emp) (S2 := Emp) (.int _ n) .nil (fun _ h => h.elim) (fun _ h => h) (fun _ h => h), ⟨_, _, rfl, ⟨n, rfl, hw⟩, rfl⟩, by simp [V.one], rfl⟩
  ·rename_i hu
   simp only [Option.some.injEq, Prod.mk.injEq] at h
   obtain ⟨rfl, rfl⟩ := h
   obtain ⟨s, rfl, _, hs⟩ := DataW.trod_string hu hr
   have e : s = ⟨s.data.toList.toArray⟩ := by cases s; simp
   refine ⟨[.str s.data.toList], .cons (S1 := Emp) (S2 := Emp) (by rw [e]; exact .str _) .nil (fun _ h => h.elim) (fun _ h => h) (fun _ h => h), ⟨_, _, rfl, ⟨_, rfl, ?_⟩, rfl⟩, by simp [V.one], rfl⟩
   rw [Array.length_toList]
   exact hs
  ·rename_i e hu
   split at h
   ·rename_i ag' el' he
    split at h
    ·rename_i hk
     obtain ⟨hk1, hk2, hk3⟩ := hk
     simp only [Option.some.injEq, Prod.mk.injEq] at h
     obtain ⟨rfl, rfl⟩ := h
     rcases DataW.trod_slice hu hr with ⟨rfl, _⟩ | ⟨a, len, cap, elems, rest, n, _, rfl, _, _, hlc, hm, hlen, hel, hsp, _⟩
     ·exact ⟨[.sl el'.length []], .cons (S1 := Emp) (S2 := Emp) (.nil _) .nil (fun _ h => h.elim) (fun _ h => h) (fun _ h => h), ⟨_, _, rfl, ⟨[], rfl, by simp, by simp⟩, rfl⟩, by simp [V.one], rfl⟩
     ·obtain ⟨hrl, hrest⟩ := hsp rfl
      by_cases hc0 : cap = 0
      ·subst hc0
       have : len = 0 := by omega
       subst this
       exact ⟨[.sl el'.length []], .cons (S1 := Emp) (S2 := Emp) (.nil _) .nil (fun _ h => h.elim) (fun _ h => h) (fun _ h => h), ⟨_, _, rfl, ⟨[], rfl, by simp, by simp⟩, rfl⟩, by simp [V.one], rfl⟩
      ·-- its first cell says where it lies
       have hfirst : ∃ c, W.cell? a = some c := by
        have hb : ∃ y, (W.cells? 0 (a.add (0 * P.cellsOf e)) (P.cellsOf e)).bind (DataW.trod enc P W 0 (fun _ => true) true n e) = some y := by
         by_cases hl0 : len = 0
         ·have h1 := hrest 0 (by omega)
          rw [hl0] at h1
          have h2 : 0 < rest.length := by omega
          rw [List.getElem?_eq_getElem h2] at h1
          exact ⟨_, by simpa using h1⟩
         ·have h1 := hel 0 (by omega)
          have h2 : 0 < elems.length := by omega
          rw [List.getElem?_eq_getElem h2] at h1
          exact ⟨_, by simpa using h1⟩
        obtain ⟨y, hy⟩ := hb
        cases hcc : W.cells? 0 (a.add (0 * P.cellsOf e)) (P.cellsOf e) with
        | none => rw [hcc] at hy; simp at hy
        | some cs =>
         obtain ⟨_, k1, k2⟩ := World.cells?_some hcc
         have := k2 0 (by omega)
         have hlt : 0 < cs.length := by omega
         rw [List.getElem?_eq_getElem hlt] at this
         exact ⟨_, by simpa [Addr.add] using this⟩
       obtain ⟨c0, hc0'⟩ := hfirst
       obtain ⟨g, o, sp⟩ := a
       have hsp0 : sp = none := by
        unfold World.cell? at hc0'
        split at hc0'
        ·cases sp with
         | none => rfl
         | some z => simp at hc0'
        ·cases hc0'
       subst hsp0
       obtain ⟨L, vs, h1, h2, h3, h4, h5, h6⟩ := read_row (enc := enc) (g := g) (o := o) hk3 hk1 (fun cs x hx => read_cells k n e ag' el' cs x he hx) len (fun i hi => by
        have := hel i hi
        rw [List.getElem?_eq_getElem (by omega)] at this
        exact ⟨_, this⟩)
       have hcells : ∃ cur et fz, W.heap[g]? = some (.cells cur et fz) := by
        unfold World.cell? at hc0'
        split at hc0'
        ·rename_i hh; exact ⟨_, _, _, hh⟩
        ·cases hc0'
       obtain ⟨cur, et, fz, hh⟩ := hcells
       have hb : Blk W g o vs := by
        refine ⟨cur, et, fz, hh, fun j u hu => ?_⟩
        have := h6 j u hu
        simpa [World.cell?, hh] using this
       have hg : Old W g := (Array.getElem?_eq_some_iff.1 hh).1
       have hrep := Rep.slro (S := Emp) hg hb h3 h2 (by rw [h1]; exact hlc) hm
       rw [h1] at hrep
       refine ⟨[.sl el'.length L], .cons (S1 := Emp) (S2 := Emp) hrep .nil (fun _ h => h.elim) (fun _ h => h) (fun _ h => h), ⟨_, _, rfl, ⟨L, rfl, by omega, h4⟩, rfl⟩, by simp [V.one], rfl⟩
    ·cases h
   ·cases h
  ·rename_i fs hu
   split at h
   ·rename_i l hl
    split at h
    ·rename_i hk
     simp only [Option.some.injEq, Prod.mk.injEq] at h
     obtain ⟨rfl, rfl⟩ := h
     obtain ⟨xs, n, _, _, hlen, hxl, hx⟩ := DataW.trod_struct hu hr
     have := read_fields (P := P) (g := DataW.trod enc P W 0 (fun _ => true) true n) (fun t ag el cs x h1 h2 => read_cells k n t ag el cs x h1 h2) fs.toList 0 l cs hl (fun i fd hi => by
      have h1 := hx i fd (by simpa using hi)
      have hlt : i < fs.size := by
       have := (List.getElem?_eq_some_iff.1 hi).1
       simpa using this
      rw [List.getElem?_eq_getElem (by omega)] at h1
      exact ⟨_, h1⟩) (by omega)
     simpa using this
    ·cases h
   ·cases h
  ·cases h
def okV (ag : Bool) (el : List CT) (v : V) : Prop := (if ag = true then v = .agg v.cells else V.one v = true) ∧ okCs el v.cells
theorem read_arg {k : Nat} {t : TypeId} {ag : Bool} {el : List CT} (ht : tyC P k t = some (ag, el)) (hag : ag = false → el.length = 1) {v : Value} {d : DataW H} {ps : List MemPlace} (h : DataW.Trod enc P W 0 (fun _ => true) true t v d ps)
  (hv : if ag = true then ∃ cs, v = .agg cs else v.oneCell' = true) : ∃ x, Rep W (Old W) false x v Emp ∧ okV ag el x := by
 obtain ⟨fuel, hf⟩ := h
 obtain ⟨vs, h1, h2, h3, h4⟩ := read_cells k fuel t ag el _ _ ht hf
 cases ag with
 | true =>
  simp only [if_true] at hv
  obtain ⟨cs, rfl⟩ := hv
  exact ⟨.agg vs, by simpa [Value.cells] using Rep.agg h3 h1, by simp [okV, V.cells], h2⟩
 | false =>
  simp only [Bool.false_eq_true, if_false] at hv
  have hl := h1.length
  have h1' := hag rfl
  rw [one_cells hv] at h1 h4
  match vs, h1, h2, h3 with
  | [x], .cons h1 _ _ s1 _, h2, h3 =>
   have hx := h3 x (by simp)
   have hc : x.cells = [x] := by cases x <;> first | rfl | simp [V.one] at hx
   exact ⟨x, h1.wide s1, by simpa [okV] using hx, by rw [hc]; exact h2⟩
end
end Go.Ab
set_option linter.unusedVariables false
set_option linter.unusedSimpArgs false
namespace Go.Ab
open Go.RowKit
def rn : List (Nat × Nat) → Nat → Option Nat
 | [], _ => none
 | (a, b) :: ps, r => if r = a then some b else rn ps r
def inv : List (Nat × Nat) → Nat → Option Nat
 | [], _ => none
 | (a, b) :: ps, r => if r = b then some a else inv ps r
mutual
def renA (ps : List (Nat × Nat)) : AV → Option AV
 | .val none v => some (.val none v)
 | .val (some r) v => match rn ps r with
  | some q => some (.val (some q) v)
  | none => none
 | .sl r off len => match rn ps r with
  | some q => some (.sl q off len)
  | none => none
 | .ptr r i f => match rn ps r with
  | some q => some (.ptr q i f)
  | none => none
 | .agg cs => match renAs ps cs with
  | some l => some (.agg l)
  | none => none
 | .tup cs => match renAs ps cs with
  | some l => some (.tup l)
  | none => none
 | .fn f cs => match renAs ps cs with
  | some l => some (.fn f l)
  | none => none
 | .bad => some .bad
 | .ub => some .ub
 | .e0 => some .e0
 | .mp r => match rn ps r with
  | some q => some (.mp q)
  | none => none
def renAs (ps : List (Nat × Nat)) : List AV → Option (List AV)
 | [] => some []
 | c :: cs => match renA ps c, renAs ps cs with
  | some d, some l => some (d :: l)
  | _, _ => none
end
def renR (ps : List (Nat × Nat)) : Root → Option Root
 | .row own sz L => some (.row own sz L)
 | .box cs => match renAs ps cs with
  | some l => some (.box l)
  | none => none
 | .dead => some .dead
 | .map es => some (.map es)
def keepA (ps : List (Nat × Nat)) (l : List (Nat × AV)) : List Nat → Option (List (Nat × AV))
 | [] => some []
 | k :: ks => match renA ps (fr l k), keepA ps l ks with
  | some c, some l' => some ((k, c) :: l')
  | _, _ => none
def keepO (ps : List (Nat × Nat)) (o : Objs) : List (Nat × Nat) → Option (List (Nat × Root))
 | [] => some []
 | (a, b) :: qs => match o a with
  | some r => match renR ps r, keepO ps o qs with
   | some r', some L => some ((b, r') :: L)
   | _, _ => none
  | none => none
theorem rn_mem : ∀ {ps : List (Nat × Nat)} {a b : Nat}, rn ps a = some b → (a, b) ∈ ps
 | [], _, _, h => by simp [rn] at h
 | (c, d) :: ps, a, b, h => by
  simp only [rn] at h
  split at h
  ·rename_i e; simp only [Option.some.injEq] at h; subst e; subst h; simp
  ·exact List.mem_cons_of_mem _ (rn_mem h)
theorem inv_mem : ∀ {ps : List (Nat × Nat)} {a b : Nat}, inv ps b = some a → (a, b) ∈ ps
 | [], _, _, h => by simp [inv] at h
 | (c, d) :: ps, a, b, h => by
  simp only [inv] at h
  split at h
  ·rename_i e; simp only [Option.some.injEq] at h; subst e; subst h; simp
  ·exact List.mem_cons_of_mem _ (inv_mem h)
theorem mem_inv : ∀ {ps : List (Nat × Nat)} (hn : (ps.map (·.2)).Nodup) {a b : Nat}, (a, b) ∈ ps → inv ps b = some a
 | [], _, _, _, h => by simp at h
 | (c, d) :: ps, hn, a, b, h => by
  simp only [List.map_cons, List.nodup_cons] at hn
  simp only [inv]
  rcases List.mem_cons.1 h with h | h
  ·simp only [Prod.mk.injEq] at h; obtain ⟨rfl, rfl⟩ := h; simp
  ·have : b ≠ d := fun e => hn.1 (by rw [← e]; exact List.mem_map_of_mem (f := (·.2)) h)
   simp only [this, if_false]
   exact mem_inv hn.2 h
theorem mem_fst_inj : ∀ {ps : List (Nat × Nat)} (hn : (ps.map (·.1)).Nodup) {a b c : Nat}, (a, b) ∈ ps → (a, c) ∈ ps → b = c
 | [], _, _, _, _, h, _ => by simp at h
 | (d, e) :: ps, hn, a, b, c, h1, h2 => by
  simp only [List.map_cons, List.nodup_cons] at hn
  rcases List.mem_cons.1 h1 with h1 | h1 <;> rcases List.mem_cons.1 h2 with h2 | h2
  ·simp only [Prod.mk.injEq] at h1 h2; rw [h1.2, h2.2]
  ·simp only [Prod.mk.injEq] at h1; exact absurd (List.mem_map_of_mem (f := (·.1)) h2) (by rw [show ((a, c) : Nat × Nat).1 = d from h1.1]; exact hn.1)
  ·simp only [Prod.mk.injEq] at h2; exact absurd (List.mem_map_of_mem (f := (·.1)) h1) (by rw [show ((a, b) : Nat × Nat).1 = d from h2.1]; exact hn.1)
  ·exact mem_fst_inj hn.2 h1 h2
theorem keepO_at {ps : List (Nat × Nat)} {o : Objs} : ∀ {qs : List (Nat × Nat)} {L : List (Nat × Root)}, keepO ps o qs = some L → ∀ b, (inv qs b = none ∧ fo L b = none) ∨ ∃ a r r', inv qs b = some a ∧ o a = some r ∧ renR ps r = some r' ∧ fo L b = some r'
 | [], L, h, b => by
  simp only [keepO, Option.some.injEq] at h; subst h
  exact .inl ⟨rfl, rfl⟩
 | (a, c) :: qs, L, h, b => by
  simp only [keepO] at h
  split at h
  ·rename_i r hr
   split at h
   ·rename_i r' L' h1 h2
    simp only [Option.some.injEq] at h; subst h
    by_cases e : b = c
    ·subst e
     exact .inr ⟨a, r, r', by simp [inv], hr, h1, by simp [fo]⟩
    ·simp only [inv, fo, e, if_false]
     exact keepO_at h2 b
   ·cases h
  ·cases h
theorem live_ren {ps : List (Nat × Nat)} {r r' : Root} (h : renR ps r = some r') : live (some r') = live (some r) := by
 cases r with
 | row own sz L => simp only [renR, Option.some.injEq] at h; subst h; rfl
 | dead => simp only [renR, Option.some.injEq] at h; subst h; rfl
 | map es => simp only [renR, Option.some.injEq] at h; subst h; rfl
 | box cs =>
  simp only [renR] at h
  split at h
  ·simp only [Option.some.injEq] at h; subst h; rfl
  ·cases h
section
variable {P : Program} {N : Fr} {w0 : Base} {D0 : BSet} {E : Env} {st : St} {a : Act} {w : World}
def Env.ren (E : Env) (ps : List (Nat × Nat)) (L : List (Nat × Root)) : Env :=
 { E with
  objs := fo L
  S := fun r g => match inv ps r with
   | some q => E.S q g
   | none => False
  loc := fun r => match inv ps r with
   | some q => E.loc q
   | none => none }
structure RenOk (E : Env) (ps : List (Nat × Nat)) (L : List (Nat × Root)) : Prop where
 fst : (ps.map (·.1)).Nodup
 snd : (ps.map (·.2)).Nodup
 keep : keepO ps E.objs ps = some L
theorem RenOk.at {ps : List (Nat × Nat)} {L : List (Nat × Root)} (h : RenOk E ps L) {r q : Nat} (hq : rn ps r = some q) : inv ps q = some r ∧ ∃ o o', E.objs r = some o ∧ renR ps o = some o' ∧ fo L q = some o' := by
 have hi := mem_inv h.snd (rn_mem hq)
 refine ⟨hi, ?_⟩
 rcases keepO_at h.keep q with ⟨h1, _⟩ | ⟨a, o, o', h1, h2, h3, h4⟩
 ·rw [hi] at h1; cases h1
 ·rw [hi] at h1
  simp only [Option.some.injEq] at h1; subst h1
  exact ⟨o, o', h2, h3, h4⟩
theorem row_of_ren {ps : List (Nat × Nat)} {o : Root} {own : Bool} {sz : Nat} {L : List V} (h : renR ps o = some (.row own sz L)) : o = .row own sz L := by
 cases o with
 | row => simpa [renR] using h
 | dead => simp [renR] at h
 | map es => simp [renR] at h
 | box cs => simp only [renR] at h; split at h <;> simp at h
theorem map_of_ren {ps : List (Nat × Nat)} {o : Root} {es : List (Sc × Sc)} (h : renR ps o = some (.map es)) : o = .map es := by
 cases o with
 | row => simp [renR] at h
 | dead => simp [renR] at h
 | map es' => simpa [renR] using h
 | box cs => simp only [renR] at h; split at h <;> simp at h
theorem box_of_ren {ps : List (Nat × Nat)} {o : Root} {cs : List AV} (h : renR ps o = some (.box cs)) : ∃ ds, o = .box ds ∧ renAs ps ds = some cs := by
 cases o with
 | row => simp [renR] at h
 | dead => simp [renR] at h
 | map es => simp [renR] at h
 | box ds =>
  simp only [renR] at h
  split at h
  ·rename_i l hl
   simp only [Option.some.injEq, Root.box.injEq] at h; subst h
   exact ⟨ds, rfl, hl⟩
  ·cases h
mutual
theorem AvRep.ren {ps : List (Nat × Nat)} {L : List (Nat × Root)} (hk : RenOk E ps L) : ∀ {c : AV} {x : Value} {d : AV}, AvRep E c x → renA ps c = some d → AvRep (E.ren ps L) d x
 | _, _, d, .val0 h, hr => by
  simp only [renA, Option.some.injEq] at hr; subst hr
  exact .val0 h
 | _, _, d, .val1 (r := r) hn h, hr => by
  simp only [renA] at hr
  split at hr
  ·rename_i q hq
   simp only [Option.some.injEq] at hr; subst hr
   obtain ⟨hi, o, o', h1, h2, h3⟩ := hk.at hq
   refine .val1 (by simp [Env.ren, h3]) (fun hl => ?_)
   have hl' : live (E.objs r) = true := by
    rw [h1, ← live_ren h2, ← h3]; exact hl
   simpa [Env.ren, hi] using h hl'
  ·cases hr
 | _, _, d, .sl (r := r) hn h, hr => by
  simp only [renA] at hr
  split at hr
  ·rename_i q hq
   simp only [Option.some.injEq] at hr; subst hr
   obtain ⟨hi, o, o', h1, h2, h3⟩ := hk.at hq
   refine .sl (by simp [Env.ren, h3]) (fun own sz L' ho => ?_)
   have ho : fo L q = some (.row own sz L') := ho
   rw [h3] at ho
   simp only [Option.some.injEq] at ho; subst ho
   have := h own sz L' (by rw [h1, row_of_ren h2])
   simpa [Env.ren, hi] using this
  ·cases hr
 | _, _, d, .ptrRow (r := r) hn h h', hr => by
  simp only [renA] at hr
  split at hr
  ·rename_i q hq
   simp only [Option.some.injEq] at hr; subst hr
   obtain ⟨hi, o, o', h1, h2, h3⟩ := hk.at hq
   refine .ptrRow (by simp [Env.ren, h3]) (fun own sz L' ho => ?_) (fun cs ho => ?_)
   ·have ho : fo L q = some (.row own sz L') := ho
    rw [h3] at ho
    simp only [Option.some.injEq] at ho; subst ho
    have := h own sz L' (by rw [h1, row_of_ren h2])
    simpa [Env.ren, hi] using this
   ·have ho : fo L q = some (.box cs) := ho
    rw [h3] at ho
    simp only [Option.some.injEq] at ho; subst ho
    obtain ⟨ds, rfl, _⟩ := box_of_ren h2
    have := h' ds h1
    simpa [Env.ren, hi] using this
  ·cases hr
 | _, _, d, .agg h1 h, hr => by
  simp only [renA] at hr
  split at hr
  ·rename_i l hl
   simp only [Option.some.injEq] at hr; subst hr
   exact .agg h1 (AvReps.ren hk h hl)
  ·cases hr
 | _, _, d, .tup h, hr => by
  simp only [renA] at hr
  split at hr
  ·rename_i l hl
   simp only [Option.some.injEq] at hr; subst hr
   exact .tup (AvReps.ren hk h hl)
  ·cases hr
 | _, _, d, .fn h, hr => by
  simp only [renA] at hr
  split at hr
  ·rename_i l hl
   simp only [Option.some.injEq] at hr; subst hr
   exact .fn (AvReps.ren hk h hl)
  ·cases hr
 | _, _, d, .bad, hr => by
  simp only [renA, Option.some.injEq] at hr; subst hr
  exact .bad
 | _, _, d, .ub, hr => by
  simp only [renA, Option.some.injEq] at hr; subst hr
  exact .ub
 | _, _, d, .e0, hr => by
  simp only [renA, Option.some.injEq] at hr; subst hr
  exact .e0
 | _, _, d, .mp (r := r) hn h, hr => by
  simp only [renA] at hr
  split at hr
  ·rename_i q hq
   simp only [Option.some.injEq] at hr; subst hr
   obtain ⟨hi, o, o', h1, h2, h3⟩ := hk.at hq
   refine .mp (by simp [Env.ren, h3]) (fun es ho => ?_)
   have ho : fo L q = some (.map es) := ho
   rw [h3] at ho
   simp only [Option.some.injEq] at ho; subst ho
   have := h es (by rw [h1, map_of_ren h2])
   simpa [Env.ren, hi] using this
  ·cases hr
theorem AvReps.ren {ps : List (Nat × Nat)} {L : List (Nat × Root)} (hk : RenOk E ps L) : ∀ {c : List AV} {x : List Value} {d : List AV}, AvReps E c x → renAs ps c = some d → AvReps (E.ren ps L) d x
 | _, _, d, .nil, hr => by
  simp only [renAs, Option.some.injEq] at hr; subst hr
  exact .nil
 | _, _, d, .cons h hs, hr => by
  simp only [renAs] at hr
  split at hr
  ·rename_i c' l h1 h2
   simp only [Option.some.injEq] at hr; subst hr
   exact .cons (AvRep.ren hk h h1) (AvReps.ren hk hs h2)
  ·cases hr
end
theorem good_ren {ps : List (Nat × Nat)} {L : List (Nat × Root)} (hg : Good w0 D0 E) (hk : RenOk E ps L) : Good w0 D0 (E.ren ps L) := by
 have old : ∀ r o', fo L r = some o' → ∃ q o, inv ps r = some q ∧ E.objs q = some o ∧ renR ps o = some o' := by
  intro r o' h
  rcases keepO_at hk.keep r with ⟨_, h1⟩ | ⟨q, o, o2, h1, h2, h3, h4⟩
  ·rw [h] at h1; cases h1
  ·rw [h] at h4
   simp only [Option.some.injEq] at h4; subst h4
   exact ⟨q, o, h1, h2, h3⟩
 have lv : ∀ r, live (fo L r) = true → ∃ q, inv ps r = some q ∧ live (E.objs q) = true ∧ ∀ g, (E.ren ps L).own r g ↔ E.own q g := by
  intro r hl
  obtain ⟨o', ho', _⟩ := live_some hl
  obtain ⟨q, o, h1, h2, h3⟩ := old r o' ho'
  refine ⟨q, h1, by rw [h2, ← live_ren h3, ← ho']; exact hl, fun g => ?_⟩
  simp [Env.own, Env.ren, h1]
 refine ⟨hg.below, hg.dIn, hg.d0, ?_, ?_, ?_, ?_, hg.tabs⟩
 ·intro r o' ho'
  have ho' : fo L r = some o' := ho'
  obtain ⟨q, o, h1, h2, h3⟩ := old r o' ho'
  have hroot := hg.roots q o h2
  cases o' with
  | dead => trivial
  | row own sz L' =>
   rw [row_of_ren h3] at hroot
   simpa [RootRep, Env.ren, h1] using hroot
  | box cs =>
   obtain ⟨ds, rfl, hds⟩ := box_of_ren h3
   obtain ⟨g, cur, e, k1, k2, k3, k4⟩ := hroot
   exact ⟨g, cur, e, by simpa [Env.ren, h1] using k1, k2, k3.ren hk hds, k4⟩
  | map es =>
   have := map_of_ren h3
   subst this
   obtain ⟨g, k1, k2⟩ := hroot
   exact ⟨g, by simpa [Env.ren, h1] using k1, k2⟩
 ·intro r hl g ho
  obtain ⟨q, _, h2, h3⟩ := lv r hl
  exact hg.ownIn q h2 g ((h3 g).1 ho)
 ·intro r hl g o hlo hS
  obtain ⟨q, h1, h2, _⟩ := lv r hl
  simp only [Env.ren, h1] at hlo hS
  exact hg.ownS q h2 g o hlo hS
 ·intro r r' hne hl hl' g ho ho'
  obtain ⟨q, h1, h2, h3⟩ := lv r hl
  obtain ⟨q', h1', h2', h3'⟩ := lv r' hl'
  refine hg.apart q q' ?_ h2 h2' g ((h3 g).1 ho) ((h3' g).1 ho')
  rintro rfl
  exact hne (mem_fst_inj hk.fst (inv_mem h1) (inv_mem h1'))
theorem keepA_at {ps : List (Nat × Nat)} {l : List (Nat × AV)} : ∀ {ks : List Nat} {l' : List (Nat × AV)}, keepA ps l ks = some l' → ∀ t, renA ps (fr l t) = some (fr l' t) ∨ fr l' t = .bad
 | [], l', h, t => by
  simp only [keepA, Option.some.injEq] at h; subst h
  exact .inr rfl
 | k :: ks, l', h, t => by
  simp only [keepA] at h
  split at h
  ·rename_i c l2 h1 h2
   simp only [Option.some.injEq] at h; subst h
   simp only [fr]
   by_cases e : t = k
   ·subst e; simp only [if_true]; exact .inl h1
   ·simp only [e, if_false]; exact keepA_at h2 t
  ·cases h
theorem sim_ren {l l' : List (Nat × AV)} {o : Objs} {n n' : Nat} {L : List (Nat × Root)} (ks : List Nat) (ps : List (Nat × Nat)) (hl : keepA ps l ks = some l') (ho : keepO ps o ps = some L) (h1 : (ps.map (·.1)).Nodup) (h2 : (ps.map (·.2)).Nodup) (h3 : ∀ p ∈ ps, p.2 < n')
  (h : Sim N w0 D0 (mkS l o n) a w) : Sim N w0 D0 (mkS l' (fo L) n') a w := by
 obtain ⟨E, hE, hn⟩ := h
 have eo : E.objs = o := hE.eo
 have hk : RenOk E ps L := ⟨h1, h2, by rw [eo]; exact ho⟩
 refine ⟨E.ren ps L, ⟨good_ren hE.good hk, hE.ew, rfl, hE.size, hE.defers, fun t => ?_, hE.fix, fun t r i f h => by cases h⟩, fun r hr => ?_⟩
 ·have ht : (mkS l' (fo L) n').tmps t = fr l' t := rfl
  rw [ht]
  rcases keepA_at hl t with e | e
  ·exact (hE.tmps t).ren hk e
  ·rw [e]; exact .bad
 ·show fo L r = none
  rcases keepO_at ho r with ⟨_, h⟩ | ⟨q, _, _, h, _, _, _⟩
  ·exact h
  ·have := h3 _ (inv_mem h)
   simp only [mkS] at hr
   omega
def Aw (N : Fr) (s : St) (K : St → Prop) : Prop := ∀ w0 D0 a w, Sim N w0 D0 s a w → ∃ s', K s' ∧ Sim N w0 D0 s' a w
theorem aw_id {K : St → Prop} {s : St} (h : K s) : Aw N s K := fun _ _ _ _ hs => ⟨s, h, hs⟩
theorem aw_ren {K : St → Prop} {l l' : List (Nat × AV)} {o : Objs} {n : Nat} {L : List (Nat × Root)} (ks : List Nat) (ps : List (Nat × Nat)) (n' : Nat) (hl : keepA ps l ks = some l') (ho : keepO ps o ps = some L) (h1 : (ps.map (·.1)).Nodup) (h2 : (ps.map (·.2)).Nodup) (h3 : ∀ p ∈ ps, p.2 < n')
  (h : K (mkS l' (fo L) n')) : Aw N (mkS l o n) K := fun _ _ _ _ hs => ⟨_, h, sim_ren ks ps hl ho h1 h2 h3 hs⟩
theorem mw_aw {m : MC} {s : St} {Q Q' : Post0} (h : MW P N m s Q) (hq : ∀ e s, Q e s → Aw N s (Q' e)) : MW P N m s Q' := by
 intro c hc w0 D0 a w hs
 refine wp_mono (h c hc w0 D0 a w hs) ?_
 intro e a w h
 cases e <;> simp only [Lift] at h ⊢ <;> first
  | exact h
  | (obtain ⟨s, h1, h2⟩ := h; exact hq _ _ h1 _ _ _ _ h2)
theorem aw_then {K K' : St → Prop} {Q : Post0} (h : ∀ s, K s → Aw N s K') (e : Exit) (s : St) (hq : thenQ K Q e s) : Aw N s (thenQ K' Q e) := by
 cases e <;> first | exact h s hq | exact aw_id hq
theorem w_ren {m : MC} {Q : Post0} {l l' : List (Nat × AV)} {o : Objs} {n : Nat} {L : List (Nat × Root)} (ks : List Nat) (ps : List (Nat × Nat)) (n' : Nat) (hl : keepA ps l ks = some l') (ho : keepO ps o ps = some L) (h1 : (ps.map (·.1)).Nodup) (h2 : (ps.map (·.2)).Nodup) (h3 : ∀ p ∈ ps, p.2 < n')
  (h : W P N m (mkS l' (fo L) n') Q) : W P N m (mkS l o n) Q := ⟨fun c hc w0 D0 a w hs => h.run c hc w0 D0 a w (sim_ren ks ps hl ho h1 h2 h3 hs)⟩
theorem w_meet {x y : MC} {s : St} {Q : Post0} (K : St → Prop) (h1 : W P N x s (thenQ (fun s' => Aw N s' K) Q)) (h2 : ∀ s', K s' → W P N y s' Q) : W P N (.seq x y) s Q :=
 ⟨mw_seq (mw_aw (Q' := thenQ (fun s => MW P N y s Q) Q) h1.run (aw_then fun s h w0 D0 a w hs => (h w0 D0 a w hs).elim fun s' hh => ⟨s', (h2 s' hh.1).run, hh.2⟩))⟩
theorem w_loop {ι : Type} {x : MC} {s : St} {Q : Post0} (F : ι → St) (μ : ι → Nat) (i0 : ι) (h0 : s = F i0)
  (round : ∀ i, W P N x (F i) (thenQ (fun s' => Aw N s' (fun s2 => ∃ i', s2 = F i' ∧ μ i' < μ i)) Q)) : W P N (.loop x) s Q :=
 ⟨mw_loop (fun i s => s = F i) μ h0 fun i s hs => by
  subst hs
  exact mw_aw (round i).run (aw_then fun s h => h)⟩
end
attribute [simp] keepA keepO renA renAs renR rn inv
end Go.Ab
set_option linter.unusedVariables false
set_option linter.unusedSimpArgs false
namespace Go.Ab
open Go.RowKit Go.WideShapes
section
variable {P : Program} {W : World} {H : Type} {enc : TypeId × Value → H}
theorem read_wide {k : Nat} {t : TypeId} {ag : Bool} {el : List CT} (ht : tyC P (k + 1) t = some (ag, el)) {v : Value} {d : DataW H} {ps : List MemPlace} (h : DataW.Trod enc P W 0 (fun _ => true) true t v d ps) {r : Reach} {b : Nat}
  (hw : Value.okWide P W r b t v) : ∃ x, Rep W (Old W) false x v Emp ∧ okV ag el x := by
 have ht0 := ht
 simp only [tyC] at ht
 split at ht
 ·rename_i hu
  simp only [Option.some.injEq, Prod.mk.injEq] at ht
  obtain ⟨rfl, rfl⟩ := ht
  obtain ⟨b, rfl⟩ := okWide_bool hu hw
  exact read_arg ht0 (fun _ => rfl) h (by simp [Value.oneCell'])
 ·rename_i hu
  simp only [Option.some.injEq, Prod.mk.injEq] at ht
  obtain ⟨rfl, rfl⟩ := ht
  obtain ⟨b, rfl⟩ := okWide_int hu hw
  exact read_arg ht0 (fun _ => rfl) h (by simp [Value.oneCell'])
 ·rename_i hu
  simp only [Option.some.injEq, Prod.mk.injEq] at ht
  obtain ⟨rfl, rfl⟩ := ht
  obtain ⟨b, rfl⟩ := okWide_string hu hw
  exact read_arg ht0 (fun _ => rfl) h (by simp [Value.oneCell'])
 ·rename_i hu
  split at ht
  ·split at ht
   ·simp only [Option.some.injEq, Prod.mk.injEq] at ht
    obtain ⟨rfl, rfl⟩ := ht
    obtain ⟨a, l, c, rfl⟩ := okWide_slice hu hw
    exact read_arg ht0 (fun _ => rfl) h (by simp [Value.oneCell'])
   ·cases ht
  ·cases ht
 ·rename_i hu
  split at ht
  ·split at ht
   ·simp only [Option.some.injEq, Prod.mk.injEq] at ht
    obtain ⟨rfl, rfl⟩ := ht
    obtain ⟨cs, rfl, _⟩ := okWide_struct hu hw
    exact read_arg ht0 (fun h => by cases h) h (by simp)
   ·cases ht
  ·cases ht
 ·cases ht
end
end Go.Ab
