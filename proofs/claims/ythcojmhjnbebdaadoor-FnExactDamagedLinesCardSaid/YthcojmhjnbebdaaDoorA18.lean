/- Operations whose order is open: two that do not meddle may change places (own framework). -/
import Derived.Test.YthcojmhjnbebdaaDoorA17
set_option linter.unusedVariables false
set_option linter.unusedSimpArgs false
namespace Go.Ab
open Go.RowKit

def FO.soft : FO → Bool
  | .box _ | .alloc _ | .bld _ _ | .nilrow _ | .nilof _ _ | .mks _ _ _ _ _ | .bslp _ _ | .mkm => true
  | _ => false
def FO.rd : FO → List Nat
  | .box x | .nilof x _ => rdX x
  | .alloc _ | .nilrow _ => []
  | .bld _ ps => ps.flatMap fun p => rdX p.2.2
  | .mks _ _ _ l c => rdX l ++ rdX c
  | .bsl _ xs => rdXs xs
  | .bslp _ xs => rdXs xs
  | .app x y _ _ _ => rdX x ++ rdX y
  | .st x v _ => rdX x ++ rdX v
  | .clr x _ _ => rdX x
  | .mkm => []
  | .mpu _ x k v => rdX x ++ (rdX k ++ rdX v)
  | .men _ x k _ => rdX x ++ rdX k
  | .mes x t v => rdX x ++ (rdX t ++ rdX v)
def AO.soft : AO → Bool
  | .f m => m.soft
  | .p k _ => !k
  | .call k _ _ => !k
  | _ => true
def AO.rd : AO → List Nat
  | .p _ m => m.rd
  | .f m => m.rd
  | .call _ _ xs => rdXs xs
  | .callv g xs => rdX g ++ rdXs xs
def MI.rd (m : MI) : List Nat := (match m.gd with
  | some (d, _) => [d]
  | none => []) ++ m.op.rd

section
variable {P : Program} {s s' : St}

theorem kn_get {c : AV} {cs : List AV} {o : Objs} (h : ∀ c ∈ cs, Kn o c) {j : Nat} (hj : cs[j]? = some c) : Kn o c := h c (List.mem_of_getElem? hj)
theorem kn_src {src : Option Nat} {c : AV} (hc : Kn s.objs c) {v u : V} (hv : s.view c = some (src, v)) : Kn s.objs (.val src u) := by
  cases src with
  | none => exact kn_val0
  | some r =>
    refine kn_val1 ?_
    unfold St.view at hv
    split at hv
    · simp at hv
    · split at hv
      · rename_i r' v' hl
        simp only [Option.some.injEq, Prod.mk.injEq] at hv
        obtain ⟨rfl, _⟩ := hv
        intro hn
        rw [hn] at hl
        cases hl
      · cases hv
    · cases hv
theorem kn_mk {src : Option Nat} {c : AV} (hc : Kn s.objs c) {v u : V} (hv : s.view c = some (src, v)) : Kn s.objs (mk src u) := by
  unfold mk
  split
  · exact kn_val0
  · exact kn_src hc hv
theorem kn_mkr {r : Nat} {u : V} (h : s.objs r ≠ none) : Kn s.objs (mk (some r) u) := by
  unfold mk
  split
  · exact kn_val0
  · exact kn_val1 h

theorem ev_kn (hk : KnSt s) {m : MO} {av : AV} (h : ev s m = some av) : Kn s.objs av := by
  cases m <;> simp only [ev] at h
  case mv x => simp only [Option.some.injEq] at h; subst h; exact get_kn hk x
  case pick c a b =>
    split at h
    · simp only [Option.some.injEq] at h; subst h
      split <;> exact get_kn hk _
    · cases h
  case nck x =>
    have hx := get_kn hk x
    split at h
    · rename_i hq
      rw [hq] at hx
      split at h
      · simp only [Option.some.injEq] at h; subst h; exact hx
      · cases h
    · rename_i hq
      rw [hq] at hx
      simp only [Option.some.injEq] at h; subst h; exact hx
    · split at h
      · rename_i hv
        simp only [Option.some.injEq] at h; subst h
        exact kn_src hx hv
      · rename_i hv
        simp only [Option.some.injEq] at h; subst h
        exact kn_src hx hv
      · cases h
  case bin op x y =>
    split at h
    · obtain ⟨r, _, rfl⟩ := Option.map_eq_some_iff.1 h; exact kn_val0
    · cases h
  case bnb n x y =>
    split at h
    · simp only [Option.some.injEq] at h; subst h; exact kn_val0
    · cases h
  case eqs n ks x y =>
    split at h
    · split at h
      · simp only [Option.some.injEq] at h; subst h; exact kn_val0
      · cases h
    · cases h
  case not x =>
    split at h
    · simp only [Option.some.injEq] at h; subst h; exact kn_val0
    · cases h
  case neg x =>
    split at h
    · simp only [Option.some.injEq] at h; subst h; exact kn_val0
    · cases h
  case conv k x =>
    split at h
    · simp only [Option.some.injEq] at h; subst h; exact kn_val0
    · cases h
  case cvs x =>
    split at h
    · simp only [Option.some.injEq] at h; subst h; exact kn_val0
    · cases h
  case bts x =>
    split at h
    · split at h
      · split at h
        · split at h
          · simp only [Option.some.injEq] at h; subst h; exact kn_val0
          · cases h
        · cases h
      · cases h
    · split at h
      · split at h
        · split at h
          · simp only [Option.some.injEq] at h; subst h; exact kn_val0
          · cases h
        · cases h
      · cases h
  case fad x f =>
    have hx := get_kn hk x
    split at h
    · rename_i hq
      rw [hq] at hx
      split at h
      · simp only [Option.some.injEq] at h; subst h; exact kn_ptr (hx _ .ptr)
      · cases h
    · split at h
      · rename_i hv
        simp only [Option.some.injEq] at h; subst h
        exact kn_src hx hv
      · cases h
  case fld x f n ag =>
    have hx := get_kn hk x
    split at h
    · rename_i cs hq
      rw [hq] at hx
      have hcs : ∀ c ∈ cs, Kn s.objs c := fun c hc q hm => hx q (.agg hc hm)
      split at h
      · split at h
        · simp only [Option.some.injEq] at h; subst h
          exact kn_agg (fun c hc => hcs c (List.mem_of_mem_drop (List.mem_of_mem_take hc)))
        · cases h
      · exact kn_get hcs h
    · split at h
      · rename_i hv
        obtain ⟨u, _, rfl⟩ := Option.map_eq_some_iff.1 h
        exact kn_mk hx hv
      · cases h
  case iad x i sz =>
    have hx := get_kn hk x
    split at h
    · cases h
    · split at h
      · split at h
        · rename_i hq
          rw [hq] at hx
          split at h
          · split at h
            · simp only [Option.some.injEq] at h; subst h; exact kn_ptr (hx _ .sl)
            · cases h
          · cases h
        · split at h
          · rename_i hv
            split at h
            · split at h
              · simp only [Option.some.injEq] at h; subst h; exact kn_src hx hv
              · cases h
            · cases h
          · cases h
      · cases h
  case ixs x i =>
    split at h
    · split at h
      · split at h
        · simp only [Option.some.injEq] at h; subst h; exact kn_val0
        · cases h
      · cases h
    · cases h
  case ixa x i l sz ag =>
    have hx := get_kn hk x
    split at h
    · cases h
    · split at h
      · split at h
        · rename_i cs hq
          rw [hq] at hx
          have hcs : ∀ c ∈ cs, Kn s.objs c := fun c hc q hm => hx q (.agg hc hm)
          split at h
          · split at h
            · simp only [Option.some.injEq] at h; subst h
              exact kn_agg (fun c hc => hcs c (List.mem_of_mem_drop (List.mem_of_mem_take hc)))
            · cases h
          · exact kn_get hcs h
        · split at h
          · rename_i hv
            obtain ⟨u, _, rfl⟩ := Option.map_eq_some_iff.1 h
            exact kn_mk hx hv
          · cases h
      · cases h
  case ld x n ag =>
    have hx := get_kn hk x
    split at h
    · rename_i r i f hq
      rw [hq] at hx
      split at h
      · split at h
        · obtain ⟨u, _, rfl⟩ := Option.map_eq_some_iff.1 h
          exact kn_mkr (hx _ .ptr)
        · cases h
      · rename_i cs ho
        have hcs := hk.box r cs ho
        split at h
        · split at h
          · simp only [Option.some.injEq] at h; subst h
            exact kn_agg (fun c hc => hcs c (List.mem_of_mem_drop (List.mem_of_mem_take hc)))
          · cases h
        · exact kn_get hcs h
      · cases h
    · split at h
      · rename_i hv
        obtain ⟨u, _, rfl⟩ := Option.map_eq_some_iff.1 h
        exact kn_mk hx hv
      · cases h
  case slc3 x lo hi mx sz =>
    split at h
    · split at h
      · split at h
        · split at h
          · simp only [Option.some.injEq] at h; subst h; exact kn_bad
          · cases h
        · cases h
      · cases h
    · cases h
  case slc x lo hi sz =>
    have hx := get_kn hk x
    split at h
    · rename_i hq
      rw [hq] at hx
      split at h
      · split at h
        · split at h
          · simp only [Option.some.injEq] at h; subst h; exact kn_sl (hx _ .sl)
          · cases h
        · cases h
      · cases h
    · split at h
      · rename_i hv
        split at h
        · split at h
          · simp only [Option.some.injEq] at h; subst h; exact kn_src hx hv
          · cases h
        · cases h
      · cases h
  case slcs x lo hi =>
    split at h
    · split at h
      · split at h
        · simp only [Option.some.injEq] at h; subst h; exact kn_val0
        · cases h
      · cases h
    · cases h
  case ext x j =>
    have hx := get_kn hk x
    split at h
    · rename_i cs hq
      rw [hq] at hx
      exact kn_get (fun c hc q hm => hx q (.tup hc hm)) h
    · cases h
  case len x =>
    split at h
    · split at h
      · simp only [Option.some.injEq] at h; subst h; exact kn_val0
      · cases h
    · split at h
      · simp only [Option.some.injEq] at h; subst h; exact kn_val0
      · cases h
  case isn neg x =>
    split at h
    · split at h
      · simp only [Option.some.injEq] at h; subst h; split
        · exact kn_ub
        · exact kn_val0
      · cases h
    · split at h
      · simp only [Option.some.injEq] at h; subst h; split
        · exact kn_ub
        · exact kn_val0
      · cases h
  case lens x =>
    split at h
    · simp only [Option.some.injEq] at h; subst h; exact kn_val0
    · cases h
  case mnx mx x y =>
    split at h
    · simp only [Option.some.injEq] at h; subst h; exact kn_val0
    · cases h
  case mkf f caps =>
    simp only [Option.some.injEq] at h; subst h
    exact kn_fn (fun c hc => by obtain ⟨x, _, rfl⟩ := List.mem_map.1 hc; exact get_kn hk x)
  case mlk kd x k z ok =>
    have two : ∀ (a b : V), Kn s.objs (.tup [.val none a, .val none b]) := fun a b => kn_tup (fun c hc => by
      rcases List.mem_cons.1 hc with rfl | hc
      · exact kn_val0
      · rw [List.mem_singleton.1 hc]; exact kn_val0)
    split at h
    · split at h
      · simp only [Option.some.injEq] at h; subst h
        split
        · exact two _ _
        · exact kn_val0
      · simp only [Option.some.injEq] at h; subst h
        split
        · exact two _ _
        · exact kn_val0
      · cases h
    · cases h

theorem kn_over {o G : Objs} {c : AV} (h : Kn o c) : Kn (over o G) c := by
  intro r hr
  simp only [over]
  cases G r with
  | some x => simp
  | none => exact h r hr

theorem cellsAV_kn (hk : KnSt s) {c : AV} (hc : Kn s.objs c) {cs : List AV} (h : cellsAV s c = some cs) : ∀ c ∈ cs, Kn s.objs c := by
  unfold cellsAV at h
  split at h
  · simp only [Option.some.injEq] at h; subst h
    exact fun c hm q hq => hc q (.agg hm hq)
  · simp only [Option.some.injEq] at h; subst h
    intro c hm; rw [List.mem_singleton] at hm; subst hm; exact hc
  · split at h
    · simp only [Option.some.injEq] at h; subst h
      intro c hm; rw [List.mem_singleton] at hm; subst hm; exact hc
    · cases h
  · split at h
    · simp only [Option.some.injEq] at h; subst h
      intro c hm; rw [List.mem_singleton] at hm; subst hm; exact hc
    · cases h
  · split at h
    · simp only [Option.some.injEq] at h; subst h
      intro c hm; rw [List.mem_singleton] at hm; subst hm; exact hc
    · cases h
  · split at h
    · rename_i hv
      simp only [Option.some.injEq] at h; subst h
      intro c hm
      obtain ⟨u, _, rfl⟩ := List.mem_map.1 hm
      exact kn_mk hc hv
    · rename_i hv
      simp only [Option.some.injEq] at h; subst h
      intro c hm; rw [List.mem_singleton] at hm; subst hm
      exact kn_mk hc hv
    · cases h
  · cases h

/-- New roots: what they hold is known, and so is what names them. -/
def GoodG (o G : Objs) : Prop := ∀ r cs, G r = some (.box cs) → ∀ c ∈ cs, Kn (over o G) c

theorem plV_kn {r : RV} {id : Nat} {o : Objs} (hf : r.fits = true) : (∀ q, live (o q) = true ∨ True) → Kn (plV id o r).2 (plV id o r).1 ∧ ∀ q cs, (plV id o r).2 q = some (.box cs) → o q = some (.box cs) := by
  intro _
  have k1 : ∀ (r : R1) (id : Nat) (o : Objs), Kn (pl1 id o r).2 (pl1 id o r).1 ∧ (∀ q, o q ≠ none → (pl1 id o r).2 q ≠ none) ∧ ∀ q cs, (pl1 id o r).2 q = some (.box cs) → o q = some (.box cs) := by
    intro r id o
    cases r with
    | val v => exact ⟨kn_val0, fun q h => h, fun q cs h => h⟩
    | row own sz L =>
      refine ⟨kn_sl (by simp [pl1, upd_same]), fun q h => ?_, fun q cs h => ?_⟩
      · simp only [pl1]
        by_cases e : q = id
        · subst e; simp [upd_same]
        · rw [upd_ne e]; exact h
      · simp only [pl1] at h
        by_cases e : q = id
        · subst e; rw [upd_same] at h; cases h
        · rw [upd_ne e] at h; exact h
  have up : ∀ {o o' : Objs} {c : AV}, (∀ q, o q ≠ none → o' q ≠ none) → Kn o c → Kn o' c := fun h hk r hr => h r (hk r hr)
  have k1L : ∀ (rs : List R1) (id : Nat) (o : Objs), (∀ c ∈ (pl1L id o rs).1, Kn (pl1L id o rs).2 c) ∧ (∀ q, o q ≠ none → (pl1L id o rs).2 q ≠ none) ∧ ∀ q cs, (pl1L id o rs).2 q = some (.box cs) → o q = some (.box cs) := by
    intro rs
    induction rs with
    | nil => intro id o; exact ⟨by simp [pl1L], fun q h => h, fun q cs h => h⟩
    | cons r rs ih =>
      intro id o
      obtain ⟨a1, a2, a3⟩ := k1 r id o
      obtain ⟨b1, b2, b3⟩ := ih (id + 1) (pl1 id o r).2
      refine ⟨?_, fun q h => b2 q (a2 q h), fun q cs h => a3 q cs (b3 q cs h)⟩
      intro c hc
      simp only [pl1L] at hc ⊢
      rcases List.mem_cons.1 hc with rfl | hc
      · exact up b2 a1
      · exact b1 c hc
  have k2 : ∀ (r : R2) (id : Nat) (o : Objs), Kn (pl2 id o r).2 (pl2 id o r).1 ∧ (∀ q, o q ≠ none → (pl2 id o r).2 q ≠ none) ∧ ∀ q cs, (pl2 id o r).2 q = some (.box cs) → o q = some (.box cs) := by
    intro r id o
    cases r with
    | one r => exact k1 r id o
    | agg rs =>
      obtain ⟨a1, a2, a3⟩ := k1L rs id o
      exact ⟨kn_agg a1, a2, a3⟩
  have k2L : ∀ (rs : List R2) (id : Nat) (o : Objs), (∀ c ∈ (pl2L id o rs).1, Kn (pl2L id o rs).2 c) ∧ (∀ q, o q ≠ none → (pl2L id o rs).2 q ≠ none) ∧ ∀ q cs, (pl2L id o rs).2 q = some (.box cs) → o q = some (.box cs) := by
    intro rs
    induction rs with
    | nil => intro id o; exact ⟨by simp [pl2L], fun q h => h, fun q cs h => h⟩
    | cons r rs ih =>
      intro id o
      obtain ⟨a1, a2, a3⟩ := k2 r id o
      obtain ⟨b1, b2, b3⟩ := ih (id + 16) (pl2 id o r).2
      refine ⟨?_, fun q h => b2 q (a2 q h), fun q cs h => a3 q cs (b3 q cs h)⟩
      intro c hc
      simp only [pl2L] at hc ⊢
      rcases List.mem_cons.1 hc with rfl | hc
      · exact up b2 a1
      · exact b1 c hc
  cases r with
  | one r => exact ⟨(k2 r id o).1, (k2 r id o).2.2⟩
  | tup rs => exact ⟨kn_tup (k2L rs id o).1, (k2L rs id o).2.2⟩
end
end Go.Ab
