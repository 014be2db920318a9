import Derived.Test.YtpnmhfbiaajaeaaGreatDoorA3
set_option linter.unusedVariables false
set_option linter.unusedSimpArgs false
namespace Go.Ab
open Go.RowKit
section
variable {P : Program} {N : Fr} {w0 : Base} {D0 : BSet} {E : Env} {st : St} {a : Act} {w : World}
theorem run_sizeOf' {t n : Nat} (h : sizeT P t = some n) : (sizeOf t).run P w = .ok n w := by
 unfold sizeT at h
 obtain ⟨i, hi, rfl⟩ := Option.map_eq_some_iff.1 h
 simp [sizeOf, typeInfo, hi]
theorem run_isAgg' {t : Nat} {ag : Bool} (h : aggT P t = some ag) : (isAgg t).run P w = .ok ag w := by
 unfold aggT at h
 unfold isAgg underlying
 split at h <;> simp_all
theorem run_under {t : Nat} {d : TypeDesc} (h : P.underlying t = some d) : (underlying t).run P w = .ok d w := by
 simp [underlying, h]
theorem blk_cell {g off : Nat} {vs : List Value} (h : Blk w g off vs) {j : Nat} {u : Value} (hj : vs[j]? = some u) : w.cell? ⟨g, off + j, none⟩ = some u := by
 obtain ⟨cur, e, fz, h1, h2⟩ := h
 simp [World.cell?, h1, h2 j u hj]
theorem addr_add (g o n : Nat) : (⟨g, o, none⟩ : Addr).add n = ⟨g, o + n, none⟩ := by
 unfold Addr.add
 split
 ·rename_i h; subst h; rfl
 ·rfl
theorem run_loadOne {g o : Nat} {u : Value} (h : w.cell? ⟨g, o, none⟩ = some u) {t : Nat} (ha : aggT P t = some false) : (loadVar t ⟨g, o, none⟩).run P w = .ok u w := by
 simp [loadVar, run_isAgg' ha, h]
theorem run_loadAgg {g o n : Nat} {vs : List Value} (h : ∀ j u, vs[j]? = some u → w.cell? ⟨g, o + j, none⟩ = some u) (hl : vs.length = n) {t : Nat} (ha : aggT P t = some true) (hn : sizeT P t = some n) :
  (loadVar t ⟨g, o, none⟩).run P w = .ok (.agg vs.toArray) w := by
 have := run_loadCells_list (P := P) w ⟨g, o, none⟩ vs (fun j v hv => by rw [addr_add]; exact h j v hv)
 rw [hl] at this
 simp [loadVar, run_isAgg' ha, run_sizeOf' hn, this]
theorem load_run {D : BSet} {o : Bool} {S : BSet} {g off f n t : Nat} {ag : Bool} {cs : List V} {vs : List Value} {v : V} (hb : Blk w g off vs) (hr : Reps w D o cs vs S) (h1 : ∀ c ∈ cs, V.one c = true)
  (hl : ldV cs f n ag = some v) (ha : aggT P t = some ag) (hn : sizeT P t = some n) : ∃ z, (loadVar t ⟨g, off + f, none⟩).run P w = .ok z w ∧ Rep w D o v z S := by
 unfold ldV at hl
 cases ag with
 | true =>
  simp only [if_true] at hl
  split at hl
  ·rename_i hle
   simp only [Option.some.injEq] at hl; subst hl
   have hlen := hr.length
   refine ⟨.agg ((vs.drop f).take n).toArray, run_loadAgg (vs := (vs.drop f).take n) ?_ (by simp; omega) ha hn, .agg (fun c hc => h1 c (List.mem_of_mem_drop (List.mem_of_mem_take hc))) ((hr.drop f).take n)⟩
   intro j u hu
   rw [List.getElem?_take] at hu
   split at hu
   ·rw [List.getElem?_drop] at hu
    rw [Nat.add_assoc]
    exact blk_cell hb hu
   ·cases hu
  ·cases hl
 | false =>
  simp only [Bool.false_eq_true, if_false] at hl
  obtain ⟨y, hy, hrep⟩ := hr.get hl
  exact ⟨y, run_loadOne (blk_cell hb hy) ha, hrep⟩
theorem flat_one {D : BSet} {o : Bool} {S : BSet} {x : V} {v : Value} (h : Rep w D o x v S) : ∀ c ∈ x.cells, V.one c = true := h.cells.2
theorem flat_at {D : BSet} {o : Bool} {sz : Nat} : ∀ {L : List V} {vs : List Value} {S : BSet}, Uni sz L → Reps w D o (L.flatMap V.cells) vs S → ∀ {i : Nat} {e : V}, L[i]? = some e →
  ∃ ws, Reps w D o e.cells ws S ∧ ws.length = sz ∧ ∀ j u, ws[j]? = some u → vs[i * sz + j]? = some u
 | [], vs, S, _, _, i, e, h => by simp at h
 | x :: L, vs, S, hu, hr, i, e, h => by
  rw [List.flatMap_cons] at hr
  obtain ⟨y, y', S1, S2, rfl, r1, r2, _, s1, s2⟩ := Reps.split hr
  have hx := (hu x (by simp)).1
  have hy : y.length = sz := by rw [← r1.length]; exact hx
  cases i with
  | zero =>
   simp at h; subst h
   refine ⟨y, r1.wide s1, hy, fun j u hj => ?_⟩
   have hlt : j < y.length := by
    rcases Nat.lt_or_ge j y.length with h | h
    ·exact h
    ·rw [List.getElem?_eq_none h] at hj; cases hj
   simpa [List.getElem?_append_left hlt] using hj
  | succ i =>
   simp at h
   obtain ⟨ws, q1, q2, q3⟩ := flat_at (fun z hz => hu z (by simp [hz])) r2 h
   refine ⟨ws, q1.wide s2, q2, fun j u hj => ?_⟩
   rw [List.getElem?_append_right (by rw [hy, Nat.succ_mul]; omega), hy]
   have : (i + 1) * sz + j - sz = i * sz + j := by rw [Nat.succ_mul]; omega
   rw [this]
   exact q3 j u hj
theorem Uni.one {sz : Nat} {L : List V} (h : Uni sz L) {i : Nat} {e : V} (hi : L[i]? = some e) : ∀ c ∈ e.cells, V.one c = true := (h e (List.mem_of_getElem? hi)).2
theorem asI_rep (hE : SimE N w0 D0 E st a w) {c : AV} {v : Value} (h : AvRep E c v) {n : Int} (hi : asI (st.view c) = some n) : ∃ k, v = .int k n := by
 unfold asI at hi
 split at hi
 ·rename_i src k m hv
  simp only [Option.some.injEq] at hi; subst hi
  obtain ⟨hr, _⟩ := view_rep hE h hv
  cases hr
  exact ⟨_, rfl⟩
 ·cases hi
theorem run_sliceBound {v : Value} {k : IntKind} {n : Int} (hv : v = .int k n) {y : Nat} {code : BoundsCode} (h0 : 0 ≤ n) (h1 : n.toNat ≤ y) : (Instr.sliceBound v y code).run P w = .ok n.toNat w := by
 subst hv
 have : n ≤ (y : Int) := by omega
 simp [Instr.sliceBound, asIntOf, h0, this]
theorem bnd_run (hE : SimE N w0 D0 E st a w) {p : Option Operand} {x : Option X} (hp : compXo p = some x) {d n : Nat} (hb : bnd st d x = some n) :
  (p = none ∧ n = d) ∨ ∃ q k m, p = some q ∧ a.eval q = .int k m ∧ 0 ≤ m ∧ m.toNat = n := by
 unfold compXo at hp
 split at hp
 ·simp only [Option.some.injEq] at hp; subst hp
  simp only [bnd, Option.some.injEq] at hb
  exact .inl ⟨rfl, hb.symm⟩
 ·rename_i q
  obtain ⟨y, hy, rfl⟩ := Option.map_eq_some_iff.1 hp
  simp only [bnd] at hb
  split at hb
  ·rename_i m hm
   split at hb
   ·rename_i h0
    simp only [Option.some.injEq] at hb
    obtain ⟨k, hk⟩ := asI_rep hE (get_rep hE hy) hm
    exact .inr ⟨q, k, m, rfl, hk, h0, hb⟩
   ·cases hb
  ·cases hb
theorem bounds_run (hE : SimE N w0 D0 E st a w) {lo hi : Option Operand} {xl xh : Option X} (hl : compXo lo = some xl) (hh : compXo hi = some xh) {isS : Bool} {len cap l h : Nat} (bl : bnd st 0 xl = some l) (bh : bnd st len xh = some h)
  (h1 : l ≤ h) (h2 : h ≤ cap) : (Instr.sliceBounds isS len cap (lo.map a.eval) (hi.map a.eval) none).run P w = .ok (l, h, cap) w := by
 rcases bnd_run hE hl bl with ⟨rfl, rfl⟩ | ⟨q, k, m, rfl, hq, h0, rfl⟩ <;> rcases bnd_run hE hh bh with ⟨rfl, rfl⟩ | ⟨q', k', m', rfl, hq', h0', rfl⟩
 ·simp [Instr.sliceBounds]
 ·simp [Instr.sliceBounds, run_sliceBound hq' (y := cap) h0' (by omega)]
 ·simp [Instr.sliceBounds, run_sliceBound hq (y := h) h0 (by omega)]
 ·simp [Instr.sliceBounds, run_sliceBound hq (y := m'.toNat) h0 (by omega), run_sliceBound hq' (y := cap) h0' (by omega)]
theorem bounds_run3 (hE : SimE N w0 D0 E st a w) {lo hi mx : Option Operand} {xl xh xm : Option X} (hl : compXo lo = some xl) (hh : compXo hi = some xh) (hm : compXo mx = some xm) {isS : Bool} {len cap l h m : Nat} (bl : bnd st 0 xl = some l) (bh : bnd st len xh = some h) (bm : bnd st 0 xm = some m)
  (hi' : xh.isSome = true) (hm' : xm.isSome = true) (h1 : l ≤ h) (h2 : h ≤ m) (h3 : m ≤ cap) : (Instr.sliceBounds isS len cap (lo.map a.eval) (hi.map a.eval) (mx.map a.eval)).run P w = .ok (l, h, m) w := by
 rcases bnd_run hE hh bh with ⟨rfl, rfl⟩ | ⟨q', k', m', rfl, hq', h0', rfl⟩
 ·simp only [compXo, Option.some.injEq] at hh
  subst hh; cases hi'
 rcases bnd_run hE hm bm with ⟨rfl, rfl⟩ | ⟨q2, k2, m2, rfl, hq2, h02, rfl⟩
 ·simp only [compXo, Option.some.injEq] at hm
  subst hm; cases hm'
 rcases bnd_run hE hl bl with ⟨rfl, rfl⟩ | ⟨q, k, n, rfl, hq, h0, rfl⟩
 ·simp [Instr.sliceBounds, run_sliceBound hq2 (y := cap) h02 (by omega), run_sliceBound hq' (y := m2.toNat) h0' (by omega)]
 ·simp [Instr.sliceBounds, run_sliceBound hq2 (y := cap) h02 (by omega), run_sliceBound hq' (y := m2.toNat) h0' (by omega), run_sliceBound hq (y := m'.toNat) h0 (by omega)]
end
end Go.Ab
