/- Reading the arguments of a law (own framework). -/
import Derived.Test.YthcojmhjnbebdaaDoorA24
import Derived.ChangeOld
import Derived.ChangeArms
import Derived.ChangeShapes
set_option linter.unusedVariables false
set_option linter.unusedSimpArgs false
namespace Go.Ab
open Go.RowKit

/-- The cells of a type. -/
inductive CT where
  | int (k : IntKind)
  | bool
  | str
  | sl (sz : Nat) (ag : Bool) (el : List CT)
  deriving Inhabited

mutual
def okC : CT → V → Prop
  | .int k, v => ∃ n, v = .int k n ∧ (Lit.int k n).wf = true
  | .bool, v => ∃ b, v = .bool b
  | .str, v => ∃ s, v = .str s ∧ s.length ≤ maxLen
  | .sl sz ag el, v => ∃ L, v = .sl sz L ∧ L.length ≤ maxLen ∧ ∀ x ∈ L, (if ag = true then x = .agg x.cells else V.one x = true) ∧ okCs el x.cells
def okCs : List CT → List V → Prop
  | [], vs => vs = []
  | c :: cs, vs => ∃ v l, vs = v :: l ∧ okC c v ∧ okCs cs l
end

def tyF (P : Program) (f : TypeId → Option (Bool × List CT)) : Nat → List Field → Option (List CT)
  | _, [] => some []
  | off, fd :: fs => match f fd.type with
    | some (_, l) => if fd.offset = off ∧ P.cellsOf fd.type = l.length then (tyF P f (off + l.length) fs).map (l ++ ·) else none
    | none => none
def tyC (P : Program) : Nat → TypeId → Option (Bool × List CT)
  | 0, _ => none
  | k + 1, t => match P.underlying t with
    | some .bool => some (false, [.bool])
    | some (.int k) => some (false, [.int k])
    | some .string => some (false, [.str])
    | some (.slice e) => match tyC P k e with
      | some (ag, el) => if P.cellsOf e = el.length ∧ 0 < el.length ∧ (ag = false → el.length = 1) then some (false, [.sl el.length ag el]) else none
      | none => none
    | some (.struct fs) => match tyF P (tyC P k) 0 fs.toList with
      | some l => if P.cellsOf t = l.length then some (true, l) else none
      | none => none
    | _ => none

theorem okCs_append : ∀ {a b : List CT} {x y : List V}, okCs a x → okCs b y → okCs (a ++ b) (x ++ y)
  | [], b, x, y, h1, h2 => by simp only [okCs] at h1; subst h1; simpa using h2
  | c :: a, b, x, y, h1, h2 => by
    simp only [okCs] at h1
    obtain ⟨v, l, rfl, h3, h4⟩ := h1
    simp only [List.cons_append, okCs]
    exact ⟨v, l ++ y, rfl, h3, okCs_append h4 h2⟩

section
variable {P : Program} {W : World} {H : Type} {enc : TypeId × Value → H}

/-- Every block. -/
def Old (W : World) : BSet := fun g => g < W.heap.size

def Read (W : World) (ag : Bool) (el : List CT) (cs : List Value) : Prop := ∃ vs, Reps W (Old W) false vs cs Emp ∧ okCs el vs ∧ (∀ v ∈ vs, V.one v = true) ∧ cs.length = el.length

theorem add_eq (g o k : Nat) : (⟨g, o, none⟩ : Addr).add k = ⟨g, o + k, none⟩ := by
  unfold Addr.add
  split
  · rename_i h; subst h; rfl
  · rfl

theorem read_row {ag : Bool} {el : List CT} {e : TypeId} {n g o : Nat} (hag : ag = false → el.length = 1) (hce : P.cellsOf e = el.length)
    (ih : ∀ cs x, DataW.trod enc P W 0 (fun _ => true) true n e cs = some x → Read W ag el cs) :
    ∀ cnt, (∀ i, i < cnt → ∃ y, (W.cells? 0 ((⟨g, o, none⟩ : Addr).add (i * P.cellsOf e)) (P.cellsOf e)).bind (DataW.trod enc P W 0 (fun _ => true) true n e) = some y) →
    ∃ (L : List V) (vs : List Value), L.length = cnt ∧ Reps W (Old W) false (L.flatMap V.cells) vs Emp ∧ Uni el.length L ∧ (∀ x ∈ L, (if ag = true then x = .agg x.cells else V.one x = true) ∧ okCs el x.cells) ∧ vs.length = cnt * el.length ∧
      ∀ (j : Nat) (u : Value), vs[j]? = some u → W.cell? ⟨g, o + j, none⟩ = some u
  | 0, _ => ⟨[], [], rfl, .nil, (fun x h => by simp at h), (fun x h => by simp at h), by simp, fun j u h => by simp at h⟩
  | cnt + 1, h => by
    obtain ⟨L, vs, h1, h2, h3, h4, h5, h6⟩ := read_row hag hce ih cnt (fun i hi => h i (by omega))
    obtain ⟨y, hy⟩ := h cnt (by omega)
    cases hc : W.cells? 0 ((⟨g, o, none⟩ : Addr).add (cnt * P.cellsOf e)) (P.cellsOf e) with
    | none => rw [hc] at hy; simp at hy
    | some cs =>
      rw [hc] at hy
      simp only [Option.bind_some] at hy
      obtain ⟨ws, r1, r2, r3, r4⟩ := ih cs y hy
      obtain ⟨_, k1, k2⟩ := World.cells?_some hc
      obtain ⟨x, hx, hxc⟩ : ∃ x : V, x.cells = ws ∧ (if ag = true then x = .agg x.cells else V.one x = true) := by
        cases ag with
        | true => exact ⟨.agg ws, rfl, by simp [V.cells]⟩
        | false =>
          have hl := r1.length
          have h1' := hag rfl
          match ws, r2, r3, hl with
          | [], _, _, hl => simp at hl; omega
          | [x], _, r3, _ =>
            have := r3 x (by simp)
            exact ⟨x, by cases x <;> first | rfl | simp [V.one] at this, by simpa using this⟩
          | x :: y :: l, _, _, hl => simp at hl; omega
      refine ⟨L ++ [x], vs ++ cs, by simp [h1], ?_, ?_, ?_, ?_, ?_⟩
      · rw [List.flatMap_append]
        simp only [List.flatMap_cons, List.flatMap_nil, List.append_nil, hx]
        exact Reps.append (S1 := Emp) (S2 := Emp) h2 r1 (fun _ h => h.elim) (fun _ h => h) (fun _ h => h)
      · intro z hz
        rcases List.mem_append.1 hz with hz | hz
        · exact h3 z hz
        · simp only [List.mem_singleton] at hz; subst hz
          rw [hx]
          exact ⟨by rw [← r4]; exact r1.length, r3⟩
      · intro z hz
        rcases List.mem_append.1 hz with hz | hz
        · exact h4 z hz
        · simp only [List.mem_singleton] at hz; subst hz
          exact ⟨hxc, by rw [hx]; exact r2⟩
      · rw [List.length_append, h5, r4, Nat.succ_mul]
      · intro j u hu
        rw [List.getElem?_append] at hu
        split at hu
        · exact h6 j u hu
        · rename_i hge
          rw [h5] at hge hu
          have hlt := (List.getElem?_eq_some_iff.1 hu).1
          have := k2 (j - cnt * el.length) (by omega)
          rw [add_eq, add_eq, hu, hce] at this
          rw [← this]
          congr 2
          omega

theorem read_fields {f : TypeId → Option (Bool × List CT)} {g : TypeId → List Value → Option (DataW H × List MemPlace)} (ih : ∀ t ag el cs x, f t = some (ag, el) → g t cs = some x → Read W ag el cs) :
    ∀ (fs : List Field) (off : Nat) (l : List CT) (cs : List Value), tyF P f off fs = some l → (∀ (i : Nat) (fd : Field), fs[i]? = some fd → ∃ x, g fd.type ((cs.drop fd.offset).take (P.cellsOf fd.type)) = some x) → off + l.length = cs.length → Read W true l (cs.drop off)
  | [], off, l, cs, ht, _, hl => by
    simp only [tyF, Option.some.injEq] at ht; subst ht
    simp only [List.length_nil, Nat.add_zero] at hl
    rw [List.drop_of_length_le (by omega)]
    exact ⟨[], .nil, by simp [okCs], by simp, rfl⟩
  | fd :: fs, off, l, cs, ht, hg, hl => by
    simp only [tyF] at ht
    split at ht
    · rename_i ag el hf
      split at ht
      · rename_i hk
        obtain ⟨l', hl', rfl⟩ := Option.map_eq_some_iff.1 ht
        obtain ⟨x, hx⟩ := hg 0 fd rfl
        obtain ⟨ws, r1, r2, r3, r4⟩ := ih _ _ _ _ _ hf hx
        obtain ⟨ws', q1, q2, q3, q4⟩ := read_fields ih fs (off + el.length) l' cs hl' (fun i fd' hi => hg (i + 1) fd' (by simpa using hi)) (by simp at hl; omega)
        rw [hk.1, hk.2] at r1 r4
        have hcut : cs.drop off = (cs.drop off).take el.length ++ cs.drop (off + el.length) := by
          rw [← List.drop_drop]
          exact (List.take_append_drop _ _).symm
        rw [hcut]
        refine ⟨ws ++ ws', Reps.append (S1 := Emp) (S2 := Emp) r1 q1 (fun _ h => h.elim) (fun _ h => h) (fun _ h => h), okCs_append r2 q2, ?_, by simp [q4]; simp at r4 q4 hl ⊢; omega⟩
        intro v hv
        rcases List.mem_append.1 hv with hv | hv
        · exact r3 v hv
        · exact q3 v hv
      · cases ht
    · cases ht

/-- What is read is as its type says. -/
theorem read_cells : ∀ (k : Nat) (fuel : Nat) (t : TypeId) (ag : Bool) (el : List CT) (cs : List Value) (x : DataW H × List MemPlace), tyC P k t = some (ag, el) → DataW.trod enc P W 0 (fun _ => true) true fuel t cs = some x → Read W ag el cs
  | 0, _, _, _, _, _, _, h, _ => by simp [tyC] at h
  | k + 1, fuel, t, ag, el, cs, x, h, hr => by
    simp only [tyC] at h
    split at h
    · rename_i hu
      simp only [Option.some.injEq, Prod.mk.injEq] at h
      obtain ⟨rfl, rfl⟩ := h
      obtain ⟨b, rfl, _⟩ := DataW.trod_bool hu hr
      exact ⟨[.bool b], .cons (S1 := Emp) (S2 := Emp) (.bool b) .nil (fun _ h => h.elim) (fun _ h => h) (fun _ h => h), ⟨_, _, rfl, ⟨b, rfl⟩, rfl⟩, by simp [V.one], rfl⟩
    · rename_i kk hu
      simp only [Option.some.injEq, Prod.mk.injEq] at h
      obtain ⟨rfl, rfl⟩ := h
      obtain ⟨n, rfl, _, hw⟩ := DataW.trod_int hu hr
      exact ⟨[.int _ n], .cons (S1 := Emp) (S2 := Emp) (.int _ n) .nil (fun _ h => h.elim) (fun _ h => h) (fun _ h => h), ⟨_, _, rfl, ⟨n, rfl, hw⟩, rfl⟩, by simp [V.one], rfl⟩
    · rename_i hu
      simp only [Option.some.injEq, Prod.mk.injEq] at h
      obtain ⟨rfl, rfl⟩ := h
      obtain ⟨s, rfl, _, hs⟩ := DataW.trod_string hu hr
      have e : s = ⟨s.data.toList.toArray⟩ := by cases s; simp
      refine ⟨[.str s.data.toList], .cons (S1 := Emp) (S2 := Emp) (by rw [e]; exact .str _) .nil (fun _ h => h.elim) (fun _ h => h) (fun _ h => h), ⟨_, _, rfl, ⟨_, rfl, ?_⟩, rfl⟩, by simp [V.one], rfl⟩
      rw [Array.length_toList]
      exact hs
    · rename_i e hu
      split at h
      · rename_i ag' el' he
        split at h
        · rename_i hk
          obtain ⟨hk1, hk2, hk3⟩ := hk
          simp only [Option.some.injEq, Prod.mk.injEq] at h
          obtain ⟨rfl, rfl⟩ := h
          rcases DataW.trod_slice hu hr with ⟨rfl, _⟩ | ⟨a, len, cap, elems, rest, n, _, rfl, _, _, hlc, hm, hlen, hel, hsp, _⟩
          · exact ⟨[.sl el'.length []], .cons (S1 := Emp) (S2 := Emp) (.nil _) .nil (fun _ h => h.elim) (fun _ h => h) (fun _ h => h), ⟨_, _, rfl, ⟨[], rfl, by simp, by simp⟩, rfl⟩, by simp [V.one], rfl⟩
          · obtain ⟨hrl, hrest⟩ := hsp rfl
            by_cases hc0 : cap = 0
            · subst hc0
              have : len = 0 := by omega
              subst this
              exact ⟨[.sl el'.length []], .cons (S1 := Emp) (S2 := Emp) (.nil _) .nil (fun _ h => h.elim) (fun _ h => h) (fun _ h => h), ⟨_, _, rfl, ⟨[], rfl, by simp, by simp⟩, rfl⟩, by simp [V.one], rfl⟩
            · -- its first cell says where it lies
              have hfirst : ∃ c, W.cell? a = some c := by
                have hb : ∃ y, (W.cells? 0 (a.add (0 * P.cellsOf e)) (P.cellsOf e)).bind (DataW.trod enc P W 0 (fun _ => true) true n e) = some y := by
                  by_cases hl0 : len = 0
                  · have h1 := hrest 0 (by omega)
                    rw [hl0] at h1
                    have h2 : 0 < rest.length := by omega
                    rw [List.getElem?_eq_getElem h2] at h1
                    exact ⟨_, by simpa using h1⟩
                  · have h1 := hel 0 (by omega)
                    have h2 : 0 < elems.length := by omega
                    rw [List.getElem?_eq_getElem h2] at h1
                    exact ⟨_, by simpa using h1⟩
                obtain ⟨y, hy⟩ := hb
                cases hcc : W.cells? 0 (a.add (0 * P.cellsOf e)) (P.cellsOf e) with
                | none => rw [hcc] at hy; simp at hy
                | some cs =>
                  obtain ⟨_, k1, k2⟩ := World.cells?_some hcc
                  have := k2 0 (by omega)
                  have hlt : 0 < cs.length := by omega
                  rw [List.getElem?_eq_getElem hlt] at this
                  exact ⟨_, by simpa [Addr.add] using this⟩
              obtain ⟨c0, hc0'⟩ := hfirst
              obtain ⟨g, o, sp⟩ := a
              have hsp0 : sp = none := by
                unfold World.cell? at hc0'
                split at hc0'
                · cases sp with
                  | none => rfl
                  | some z => simp at hc0'
                · cases hc0'
              subst hsp0
              obtain ⟨L, vs, h1, h2, h3, h4, h5, h6⟩ := read_row (enc := enc) (g := g) (o := o) hk3 hk1 (fun cs x hx => read_cells k n e ag' el' cs x he hx) len (fun i hi => by
                have := hel i hi
                rw [List.getElem?_eq_getElem (by omega)] at this
                exact ⟨_, this⟩)
              have hcells : ∃ cur et fz, W.heap[g]? = some (.cells cur et fz) := by
                unfold World.cell? at hc0'
                split at hc0'
                · rename_i hh; exact ⟨_, _, _, hh⟩
                · cases hc0'
              obtain ⟨cur, et, fz, hh⟩ := hcells
              have hb : Blk W g o vs := by
                refine ⟨cur, et, fz, hh, fun j u hu => ?_⟩
                have := h6 j u hu
                simpa [World.cell?, hh] using this
              have hg : Old W g := (Array.getElem?_eq_some_iff.1 hh).1
              have hrep := Rep.slro (S := Emp) hg hb h3 h2 (by rw [h1]; exact hlc) hm
              rw [h1] at hrep
              refine ⟨[.sl el'.length L], .cons (S1 := Emp) (S2 := Emp) hrep .nil (fun _ h => h.elim) (fun _ h => h) (fun _ h => h), ⟨_, _, rfl, ⟨L, rfl, by omega, h4⟩, rfl⟩, by simp [V.one], rfl⟩
        · cases h
      · cases h
    · rename_i fs hu
      split at h
      · rename_i l hl
        split at h
        · rename_i hk
          simp only [Option.some.injEq, Prod.mk.injEq] at h
          obtain ⟨rfl, rfl⟩ := h
          obtain ⟨xs, n, _, _, hlen, hxl, hx⟩ := DataW.trod_struct hu hr
          have := read_fields (P := P) (g := DataW.trod enc P W 0 (fun _ => true) true n) (fun t ag el cs x h1 h2 => read_cells k n t ag el cs x h1 h2) fs.toList 0 l cs hl (fun i fd hi => by
            have h1 := hx i fd (by simpa using hi)
            have hlt : i < fs.size := by
              have := (List.getElem?_eq_some_iff.1 hi).1
              simpa using this
            rw [List.getElem?_eq_getElem (by omega)] at h1
            exact ⟨_, h1⟩) (by omega)
          simpa using this
        · cases h
      · cases h
    · cases h

/-- An argument. -/
def okV (ag : Bool) (el : List CT) (v : V) : Prop := (if ag = true then v = .agg v.cells else V.one v = true) ∧ okCs el v.cells
theorem read_arg {k : Nat} {t : TypeId} {ag : Bool} {el : List CT} (ht : tyC P k t = some (ag, el)) (hag : ag = false → el.length = 1) {v : Value} {d : DataW H} {ps : List MemPlace} (h : DataW.Trod enc P W 0 (fun _ => true) true t v d ps)
    (hv : if ag = true then ∃ cs, v = .agg cs else v.oneCell' = true) : ∃ x, Rep W (Old W) false x v Emp ∧ okV ag el x := by
  obtain ⟨fuel, hf⟩ := h
  obtain ⟨vs, h1, h2, h3, h4⟩ := read_cells k fuel t ag el _ _ ht hf
  cases ag with
  | true =>
    simp only [if_true] at hv
    obtain ⟨cs, rfl⟩ := hv
    exact ⟨.agg vs, by simpa [Value.cells] using Rep.agg h3 h1, by simp [okV, V.cells], h2⟩
  | false =>
    simp only [Bool.false_eq_true, if_false] at hv
    have hl := h1.length
    have h1' := hag rfl
    rw [one_cells hv] at h1 h4
    match vs, h1, h2, h3 with
    | [x], .cons h1 _ _ s1 _, h2, h3 =>
      have hx := h3 x (by simp)
      have hc : x.cells = [x] := by cases x <;> first | rfl | simp [V.one] at hx
      exact ⟨x, h1.wide s1, by simpa [okV] using hx, by rw [hc]; exact h2⟩
end
end Go.Ab
