/- Regions: in the order of the text, or in whatever order (own framework). -/
import Derived.Test.YthcojmhjnbebdaaDoorA18
set_option linter.unusedVariables false
set_option linter.unusedSimpArgs false
namespace Go.Ab
open Go.RowKit

section
variable {P : Program} {N : Fr} {w0 : Base} {D0 : BSet} {E : Env} {st : St} {a : Act} {w : World} {s : St}

theorem fillB_agr {s s' : St} (ha : Agr s s') (hk : KnSt s) : ∀ (ps : List (Nat × Nat × X)) (cs : List AV) (ht : ∀ t ∈ (ps.flatMap fun p => rdX p.2.2), s'.tmps t = s.tmps t), fillB s' ps cs = fillB s ps cs
  | [], cs, _ => rfl
  | (off, n, x) :: ps, cs, ht => by
    simp only [List.flatMap_cons, List.mem_append] at ht
    simp only [fillB]
    rw [get_agr (fun t h => ht t (.inl h)), cellsAV_agr ha (get_kn hk x)]
    split
    · split
      · exact fillB_agr ha hk ps _ (fun t h => ht t (.inr h))
      · rfl
    · rfl
theorem fillB_kn {s : St} {G : Objs} (hk : KnSt s) : ∀ (ps : List (Nat × Nat × X)) (cs : List AV) {cs' : List AV} (h : ∀ c ∈ cs, Kn (over s.objs G) c), fillB s ps cs = some cs' → ∀ c ∈ cs', Kn (over s.objs G) c
  | [], cs, cs', h, he => by
    simp only [fillB, Option.some.injEq] at he; subst he; exact h
  | (off, n, x) :: ps, cs, cs', h, he => by
    simp only [fillB] at he
    split at he
    · rename_i us hus
      split at he
      · refine fillB_kn hk ps _ ?_ he
        intro c hc
        simp only [List.mem_append] at hc
        rcases hc with (hc | hc) | hc
        · exact h c (List.mem_of_mem_take hc)
        · exact kn_over (cellsAV_kn hk (get_kn hk x) hus c hc)
        · exact h c (List.mem_of_mem_drop hc)
      · cases he
    · cases he


/-- An operation that does not meddle: it adds roots in its slot, and does the same in each frame that knows what s knows. -/
theorem soft_o (hk : KnSt s) {s0 : St} (ha : Agr s s0) {id : Nat} {m : AO} (hs : m.soft = true) (ht : ∀ t ∈ m.rd, s0.tmps t = s.tmps t) {av : AV} {ob : Objs} (h : StepO P s0 id m av ob) :
    ∃ G, Slot id G ∧ ob = over s0.objs G ∧ (∀ s2 : St, Agr s s2 → (∀ t ∈ m.rd, s2.tmps t = s.tmps t) → StepO P s2 id m av (over s2.objs G)) ∧ Kn (over s.objs G) av ∧ (∀ q cs, G q = some (.box cs) → ∀ c ∈ cs, Kn (over s.objs G) c) := by
  have e0 : ∀ G : Objs, over (fun _ => none) G = G := by intro G; funext q; simp only [over]; cases G q <;> rfl
  have slot1 : ∀ (id : Nat) (r : Root), Slot id (upd (fun _ => none) id (some r)) := by
    intro id r q hq
    by_cases e : q = id
    · omega
    · rw [upd_ne e] at hq; exact absurd rfl hq
  cases m with
  | p m =>
    obtain ⟨h1, rfl⟩ := h
    rw [ev_agr ha hk ht] at h1
    refine ⟨fun _ => none, fun q hq => absurd rfl hq, rfl, fun s2 ha2 ht2 => ⟨by rw [ev_agr ha2 hk ht2]; exact h1, rfl⟩, ev_kn hk h1, fun q cs h => by cases h⟩
  | f m =>
    cases m <;> simp only [AO.soft, FO.soft] at hs <;> try (cases hs; done)
    case box x =>
      simp only [StepO, eff] at h
      simp only [AO.rd, FO.rd] at ht
      split at h
      · rename_i cs hcs
        simp only [Option.some.injEq, Prod.mk.injEq] at h
        obtain ⟨rfl, rfl⟩ := h
        rw [get_agr ht, cellsAV_agr ha (get_kn hk x)] at hcs
        have hkn := cellsAV_kn hk (get_kn hk x) hcs
        refine ⟨upd (fun _ => none) id (some (.box cs)), slot1 _ _, over_upd0 _ _ _, fun s2 ha2 ht2 => ?_, kn_ptr (by simp [over, upd_same]), ?_⟩
        · simp only [AO.rd, FO.rd] at ht2
          simp only [StepO, eff]
          rw [get_agr ht2, cellsAV_agr ha2 (get_kn hk x), hcs]
          simp only
          rw [over_upd0 s2.objs]
        · intro q cs' h c hc
          by_cases e : q = id
          · subst e
            rw [upd_same] at h
            simp only [Option.some.injEq, Root.box.injEq] at h
            subst h
            exact kn_over (hkn c hc)
          · rw [upd_ne e] at h; cases h
      · cases h
    case alloc zs =>
      simp only [StepO, eff] at h
      split at h
      · rename_i hlen
        simp only [Option.some.injEq, Prod.mk.injEq] at h
        obtain ⟨rfl, rfl⟩ := h
        obtain ⟨avs, G, hG⟩ := zcells_over zs (id + 1)
        have hz : ∀ o : Objs, zcells (id + 1) o zs = (avs, over o G) := by
          intro o
          have := (hG o (fun _ => none)).1
          rw [e0] at this
          exact this
        have hGs : ∀ q, G q ≠ none → id + 1 ≤ q ∧ q < id + 1 + zs.length := fun q hq => (hG (fun _ => none) (fun _ => none)).2 q hq
        have hkz0 := zcells_kn zs (id + 1) s.objs
        rw [hz] at hkz0
        refine ⟨upd G id (some (.box avs)), ?_, ?_, fun s2 _ _ => ?_, kn_ptr (by simp [over, upd_same]), ?_⟩
        · intro q hq
          by_cases e : q = id
          · omega
          · rw [upd_ne e] at hq
            have := hGs q hq
            omega
        · rw [hz]; simp only; rw [over_upd]
        · simp only [StepO, eff, hlen, if_true, hz, over_upd]
        · intro q cs h c hc
          have up : Kn (over s.objs G) c → Kn (over s.objs (upd G id (some (.box avs)))) c := by
            intro hk0 r hr
            rw [← over_upd]
            by_cases e : r = id
            · subst e; simp [upd_same]
            · rw [upd_ne e]; exact hk0 r hr
          by_cases e : q = id
          · subst e
            rw [upd_same] at h
            simp only [Option.some.injEq, Root.box.injEq] at h
            subst h
            exact up (hkz0.1 c hc)
          · rw [upd_ne e] at h
            have h' : over s.objs G q = some (.box cs) := by simp [over, h]
            exact up (kn_over (hk.box q cs (hkz0.2.2 q cs h') c hc))
      · cases h
    case bld zs ps =>
      simp only [StepO, eff] at h
      split at h
      · rename_i hlen
        obtain ⟨avs, G, hG⟩ := zcells_over zs id
        have hz : ∀ o : Objs, zcells id o zs = (avs, over o G) := by
          intro o
          have := (hG o (fun _ => none)).1
          rw [e0] at this
          exact this
        have hGs : ∀ q, G q ≠ none → id ≤ q ∧ q < id + zs.length := fun q hq => (hG (fun _ => none) (fun _ => none)).2 q hq
        have hkz0 := zcells_kn zs id s.objs
        rw [hz] at h hkz0
        split at h
        · rename_i cs hcs
          simp only [Option.some.injEq, Prod.mk.injEq] at h
          obtain ⟨rfl, rfl⟩ := h
          simp only [AO.rd, FO.rd] at ht
          rw [fillB_agr ha hk ps avs ht] at hcs
          refine ⟨G, ?_, rfl, fun s2 ha2 ht2 => ?_, kn_agg (fillB_kn hk ps avs (fun c hc => hkz0.1 c hc) hcs), ?_⟩
          · intro q hq
            have := hGs q hq
            omega
          · simp only [AO.rd, FO.rd] at ht2
            simp only [StepO, eff, hlen, if_true, hz, fillB_agr ha2 hk ps avs ht2, hcs]
          · intro q cs h c hc
            have h' : over s.objs G q = some (.box cs) := by simp [over, h]
            exact kn_over (hk.box q cs (hkz0.2.2 q cs h') c hc)
        · cases h
      · cases h
    case nilrow sz =>
      simp only [StepO, eff, Option.some.injEq, Prod.mk.injEq] at h
      obtain ⟨rfl, rfl⟩ := h
      refine ⟨upd (fun _ => none) id (some (.row true sz [])), slot1 _ _, over_upd0 _ _ _, fun s2 _ _ => ?_, kn_sl (by simp [over, upd_same]), ?_⟩
      · simp only [StepO, eff]
        rw [over_upd0 s2.objs]
      · intro q cs h
        by_cases e : q = id
        · subst e; rw [upd_same] at h; cases h
        · rw [upd_ne e] at h; cases h
    case mkm =>
      simp only [StepO, eff, Option.some.injEq, Prod.mk.injEq] at h
      obtain ⟨rfl, rfl⟩ := h
      refine ⟨upd (fun _ => none) id (some (.map [])), slot1 _ _, over_upd0 _ _ _, fun s2 _ _ => ?_, kn_mp (by simp [over, upd_same]), ?_⟩
      · simp only [StepO, eff]
        rw [over_upd0 s2.objs]
      · intro q cs h
        by_cases e : q = id
        · subst e; rw [upd_same] at h; cases h
        · rw [upd_ne e] at h; cases h
    case nilof x sz =>
      simp only [AO.rd, FO.rd] at ht
      have hkx := get_kn hk x
      have key : ∀ s2 : St, Agr s s2 → (∀ t ∈ rdX x, s2.tmps t = s.tmps t) → ((eff s2 id (.nilof x sz)).map (·.1) = (eff s id (.nilof x sz)).map (·.1)) ∧ ∀ p, eff s2 id (.nilof x sz) = some p → p = (.sl id 0 0, upd s2.objs id (some (.row true sz []))) := by
        intro s2 ha2 ht2
        simp only [eff]
        rw [get_agr ht2]
        generalize s.get x = c at hkx
        cases c with
        | sl r off len =>
          simp only
          rw [sl_agr ha2 hkx]
          constructor
          · split <;> rfl
          · intro p hp
            split at hp
            · simp only [Option.some.injEq] at hp; exact hp.symm
            · cases hp
        | _ =>
          simp only [view_agr ha2 hkx]
          constructor
          · split <;> rfl
          · intro p hp
            split at hp
            · simp only [Option.some.injEq] at hp; exact hp.symm
            · cases hp
      simp only [StepO] at h
      obtain ⟨k1, k2⟩ := key s0 ha ht
      have := k2 _ h
      simp only [Prod.mk.injEq] at this
      obtain ⟨rfl, rfl⟩ := this
      refine ⟨upd (fun _ => none) id (some (.row true sz [])), slot1 _ _, over_upd0 _ _ _, fun s2 ha2 ht2 => ?_, kn_sl (by simp [over, upd_same]), ?_⟩
      · simp only [StepO]
        obtain ⟨j1, j2⟩ := key s2 ha2 ht2
        rw [h] at k1
        rw [← k1] at j1
        cases hq : eff s2 id (.nilof x sz) with
        | none => rw [hq] at j1; simp at j1
        | some p => rw [j2 p hq, over_upd0 s2.objs]
      · intro q cs h
        by_cases e : q = id
        · subst e; rw [upd_same] at h; cases h
        · rw [upd_ne e] at h; cases h
    case bslp sz xs =>
      simp only [AO.rd, FO.rd] at ht
      simp only [StepO, eff] at h
      rw [gets_agr ht] at h
      split at h
      · rename_i L fl hL
        split at h
        · rename_i hcond
          simp only [Option.some.injEq, Prod.mk.injEq] at h
          obtain ⟨rfl, rfl⟩ := h
          refine ⟨upd (fun _ => none) id (some (.row fl sz L)), slot1 _ _, over_upd0 _ _ _, fun s2 ha2 ht2 => ?_, kn_sl (by simp [over, upd_same]), ?_⟩
          · simp only [AO.rd, FO.rd] at ht2
            simp only [StepO, eff]
            rw [gets_agr ht2, hL]
            simp only [hcond, if_true]
            rw [over_upd0 s2.objs]
          · intro q cs h
            by_cases e : q = id
            · subst e; rw [upd_same] at h; cases h
            · rw [upd_ne e] at h; cases h
        · cases h
      · cases h
    case mks sz bytes z l c =>
      simp only [AO.rd, FO.rd] at ht
      simp only [StepO, eff] at h
      rw [get_agr (x := l) (fun t h => ht t (by simp [h])), get_agr (x := c) (fun t h => ht t (by simp [h])), view_agr ha (get_kn hk l), view_agr ha (get_kn hk c)] at h
      split at h
      · rename_i ln cn h1 h2
        split at h
        · rename_i hcond
          simp only [Option.some.injEq, Prod.mk.injEq] at h
          obtain ⟨rfl, rfl⟩ := h
          refine ⟨upd (fun _ => none) id (some (.row true sz (List.replicate ln.toNat z))), slot1 _ _, over_upd0 _ _ _, fun s2 ha2 ht2 => ?_, kn_sl (by simp [over, upd_same]), ?_⟩
          · simp only [AO.rd, FO.rd] at ht2
            simp only [StepO, eff]
            rw [get_agr (x := l) (fun t h => ht2 t (by simp [h])), get_agr (x := c) (fun t h => ht2 t (by simp [h])), view_agr ha2 (get_kn hk l), view_agr ha2 (get_kn hk c), h1, h2]
            simp only [hcond, and_self, if_true]
            rw [over_upd0 s2.objs]
          · intro q cs h
            by_cases e : q = id
            · subst e; rw [upd_same] at h; cases h
            · rw [upd_ne e] at h; cases h
        · cases h
      · cases h
  | call f xs =>
    simp only [AO.rd] at ht
    obtain ⟨ln, Vs, res, hok, hsn, hcon, hfit, hcl, rfl, rfl⟩ := h
    rw [gets_agr ht, trav_congr (fun c hc => by obtain ⟨x, _, rfl⟩ := List.mem_map.1 hc; exact snap_agr ha hk 8 (get_kn hk x))] at hsn
    obtain ⟨av, G, hG, hpl⟩ := plV_over res id hfit
    have hkn := plV_kn (id := id) (o := s.objs) hfit (fun _ => .inr trivial)
    rw [hpl] at hkn
    refine ⟨G, hG, by rw [hpl], fun s2 ha2 ht2 => ?_, by rw [hpl]; exact hkn.1, ?_⟩
    · simp only [AO.rd] at ht2
      refine ⟨ln, Vs, res, hok, ?_, hcon, hfit, hcl, by rw [hpl, hpl], by rw [hpl]⟩
      rw [gets_agr ht2, trav_congr (fun c hc => by obtain ⟨x, _, rfl⟩ := List.mem_map.1 hc; exact snap_agr ha2 hk 8 (get_kn hk x))]
      exact hsn
    · intro q cs h c hc
      exact kn_over (hk.box q cs (hkn.2 q cs (by simp [over, h])) c hc)
  | callv g xs =>
    simp only [AO.rd] at ht
    obtain ⟨f, caps, hfn, ln, Vs, res, hok, hsn, hcon, hfit, hcl, rfl, rfl⟩ := h
    rw [get_agr (x := g) (fun t h => ht t (by simp [h])), fnOf_agr ha (get_kn hk g)] at hfn
    have hck := fnOf_kn (get_kn hk g) hfn
    have hall : ∀ c ∈ xs.map s.get ++ caps, Kn s.objs c := by
      intro c hc
      rcases List.mem_append.1 hc with hc | hc
      · obtain ⟨x, _, rfl⟩ := List.mem_map.1 hc; exact get_kn hk x
      · exact hck c hc
    rw [gets_agr (xs := xs) (fun t h => ht t (by simp [h])), trav_congr (fun c hc => snap_agr ha hk 8 (hall c hc))] at hsn
    obtain ⟨av, G, hG, hpl⟩ := plV_over res id hfit
    have hkn := plV_kn (id := id) (o := s.objs) hfit (fun _ => .inr trivial)
    rw [hpl] at hkn
    refine ⟨G, hG, by rw [hpl], fun s2 ha2 ht2 => ?_, by rw [hpl]; exact hkn.1, ?_⟩
    · simp only [AO.rd] at ht2
      refine ⟨f, caps, by rw [get_agr (x := g) (fun t h => ht2 t (by simp [h])), fnOf_agr ha2 (get_kn hk g)]; exact hfn, ln, Vs, res, hok, ?_, hcon, hfit, hcl, by rw [hpl, hpl], by rw [hpl]⟩
      rw [gets_agr (xs := xs) (fun t h => ht2 t (by simp [h])), trav_congr (fun c hc => snap_agr ha2 hk 8 (hall c hc))]
      exact hsn
    · intro q cs h c hc
      exact kn_over (hk.box q cs (hkn.2 q cs (by simp [over, h])) c hc)

theorem wants_agr {s s' : St} {g : Option (Nat × Bool)} (h : ∀ d b, g = some (d, b) → s'.tmps d = s.tmps d) : wants s' g = wants s g := by
  cases g with
  | none => rfl
  | some p => obtain ⟨d, b⟩ := p; simp only [wants]; rw [h d b rfl]

theorem put_objs {s : St} {d : Option Nat} {av : AV} {ob : Objs} : (put s d av ob).objs = ob := by cases d <;> rfl
theorem put_tmps_ne {s : St} {d : Option Nat} {av : AV} {ob : Objs} {t : Nat} (h : d ≠ some t) : (put s d av ob).tmps t = s.tmps t := by
  cases d with
  | none => rfl
  | some d => exact upd_ne (fun e => h (by rw [e]))

theorem kn_undef {o : Objs} : Kn o .undef := kn_tup (by simp)

/-- A step that does not meddle. -/
theorem soft_step (hk : KnSt s) {s0 : St} (ha : Agr s s0) {id : Nat} {m : MI} (hs : m.op.soft = true) (ht : ∀ t ∈ m.rd, s0.tmps t = s.tmps t) {s1 : St} (h : Step P s0 id m s1) :
    ∃ av G, Slot id G ∧ s1 = put s0 m.dst av (over s0.objs G) ∧ (∀ s2 : St, Agr s s2 → (∀ t ∈ m.rd, s2.tmps t = s.tmps t) → Step P s2 id m (put s2 m.dst av (over s2.objs G))) ∧ Kn (over s.objs G) av ∧ (∀ q cs, G q = some (.box cs) → ∀ c ∈ cs, Kn (over s.objs G) c) := by
  have hgd : ∀ (s2 : St), (∀ t ∈ m.rd, s2.tmps t = s.tmps t) → wants s2 m.gd = wants s m.gd := by
    intro s2 h2
    refine wants_agr (fun d b hd => h2 d ?_)
    simp [MI.rd, hd]
  have hop : ∀ (s2 : St), (∀ t ∈ m.rd, s2.tmps t = s.tmps t) → ∀ t ∈ m.op.rd, s2.tmps t = s.tmps t := fun s2 h2 t hm => h2 t (by simp [MI.rd, hm])
  rcases h with ⟨hw, rfl⟩ | ⟨hw, av, ob, hso, rfl⟩ | ⟨_, hx⟩
  rotate_left 2
  · exfalso
    split at hx
    · rename_i h; rw [h] at hs; simp [AO.soft] at hs
    · rename_i h; rw [h] at hs; simp [AO.soft] at hs
    · exact hx
  · refine ⟨.undef, fun _ => none, fun q hq => absurd rfl hq, rfl, fun s2 ha2 ht2 => .inl ⟨?_, rfl⟩, kn_undef, fun q cs h => by cases h⟩
    rw [hgd s2 ht2, ← hgd s0 ht]; exact hw
  · obtain ⟨G, hG, rfl, h2, k1, k2⟩ := soft_o hk ha hs (hop s0 ht) hso
    refine ⟨av, G, hG, rfl, fun s2 ha2 ht2 => .inr (.inl ⟨?_, av, _, h2 s2 ha2 (hop s2 ht2), rfl⟩), k1, k2⟩
    rw [hgd s2 ht2, ← hgd s0 ht]; exact hw

theorem kn_put (hk : KnSt s) {d : Option Nat} {av : AV} {G : Objs} (h1 : Kn (over s.objs G) av) (h2 : ∀ q cs, G q = some (.box cs) → ∀ c ∈ cs, Kn (over s.objs G) c) : KnSt (put s d av (over s.objs G)) := by
  refine ⟨fun t => ?_, ?_⟩
  · rw [put_objs]
    by_cases e : d = some t
    · subst e; simp only [put, upd_same]; exact h1
    · rw [put_tmps_ne e]; exact kn_over (hk.tmps t)
  · rw [put_objs]
    intro r cs ho c hc
    cases hG : G r with
    | some x =>
      have : G r = some (.box cs) := by simpa [over, hG] using ho
      exact h2 r cs this c hc
    | none =>
      simp only [over, hG] at ho
      exact kn_over (hk.box r cs ho c hc)

/-- Operations i and j may change places. -/
def indep (m m' : MI) : Bool :=
  m.op.soft && m'.op.soft &&
  (match m.dst with
    | some d => !m'.rd.contains d && !(m'.dst == some d)
    | none => true) &&
  (match m'.dst with
    | some d => !m.rd.contains d
    | none => true)

def FreshAt (s : St) (id : Nat) : Prop := ∀ k, k < 64 → s.objs (id + k) = none

theorem slot_none {id : Nat} {G : Objs} (hG : Slot id G) (hf : FreshAt s id) {r : Nat} (hr : s.objs r ≠ none) : G r = none := by
  cases h : G r with
  | none => rfl
  | some x =>
    obtain ⟨h1, h2⟩ := hG r (by rw [h]; simp)
    have := hf (r - id) (by omega)
    rw [show id + (r - id) = r by omega] at this
    exact absurd this hr

theorem swap (hk : KnSt s) {idj idi : Nat} {mj mi : MI} (hin : indep mj mi = true) (hdj : idj + 64 ≤ idi ∨ idi + 64 ≤ idj) (hfj : FreshAt s idj) (hfi : FreshAt s idi) {s1 s2 : St} (h1 : Step P s idj mj s1) (h2 : Step P s1 idi mi s2) :
    ∃ s1', Step P s idi mi s1' ∧ Step P s1' idj mj s2 ∧ KnSt s1 := by
  simp only [indep, Bool.and_eq_true] at hin
  obtain ⟨⟨⟨sj, si⟩, d1⟩, d2⟩ := hin
  have agr0 : Agr s s := fun r _ => rfl
  obtain ⟨avj, Gj, hGj, e1, hj, kj1, kj2⟩ := soft_step hk agr0 sj (fun t _ => rfl) h1
  subst e1
  have nd1 : ∀ t ∈ mi.rd, mj.dst ≠ some t := by
    intro t ht e
    rw [e] at d1
    simp only [Bool.and_eq_true, Bool.not_eq_true'] at d1
    have := d1.1
    rw [List.contains_iff_mem.2 ht] at this
    cases this
  have nd2 : ∀ t ∈ mj.rd, mi.dst ≠ some t := by
    intro t ht e
    rw [e] at d2
    simp only [Bool.not_eq_true'] at d2
    rw [List.contains_iff_mem.2 ht] at d2
    cases d2
  have ndd : ∀ t, mj.dst = some t → mi.dst ≠ some t := by
    intro t e e'
    rw [e, e'] at d1
    simp at d1
  have agr1 : ∀ {d av id G}, Slot id G → FreshAt s id → Agr s (put s d av (over s.objs G)) := by
    intro d av id G hG hf r hr
    rw [put_objs]
    simp only [over, slot_none hG hf hr]
  obtain ⟨avi, Gi, hGi, e2, hi, ki1, ki2⟩ := soft_step hk (agr1 hGj hfj) si (fun t ht => put_tmps_ne (nd1 t ht)) h2
  subst e2
  refine ⟨put s mi.dst avi (over s.objs Gi), hi s agr0 (fun t _ => rfl), ?_, kn_put hk kj1 kj2⟩
  have hlast := hj (put s mi.dst avi (over s.objs Gi)) (agr1 hGi hfi) (fun t ht => put_tmps_ne (nd2 t ht))
  have e : put (put s mi.dst avi (over s.objs Gi)) mj.dst avj (over (put s mi.dst avi (over s.objs Gi)).objs Gj) = put (put s mj.dst avj (over s.objs Gj)) mi.dst avi (over (put s mj.dst avj (over s.objs Gj)).objs Gi) := by
    have eo : over (over s.objs Gi) Gj = over (over s.objs Gj) Gi := by
      funext q
      simp only [over]
      cases hj' : Gj q with
      | none => cases Gi q <;> rfl
      | some x =>
        cases hi' : Gi q with
        | none => rfl
        | some y =>
          have a1 := hGj q (by rw [hj']; simp)
          have a2 := hGi q (by rw [hi']; simp)
          omega
    rw [put_objs, put_objs, eo]
    cases hdi : mi.dst with
    | none => cases hdj' : mj.dst <;> simp [put]
    | some d =>
      cases hdj' : mj.dst with
      | none => simp [put]
      | some d' =>
        have hne : d ≠ d' := fun e => ndd d' hdj' (by rw [hdi, e])
        simp only [put]
        congr 1
        funext t
        by_cases e1 : t = d
        · subst e1; rw [upd_ne hne, upd_same, upd_same]
        · by_cases e2 : t = d'
          · subst e2; rw [upd_same, upd_ne e1, upd_same]
          · rw [upd_ne e2, upd_ne e1, upd_ne e1, upd_ne e2]
  rw [e] at hlast
  exact hlast
end
end Go.Ab
