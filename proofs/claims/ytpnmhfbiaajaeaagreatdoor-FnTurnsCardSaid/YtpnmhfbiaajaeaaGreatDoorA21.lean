/- Own texts, merged: A20 A21. -/
import Derived.Test.YtpnmhfbiaajaeaaGreatDoorA19
/- Regions (own framework). -/
set_option linter.unusedVariables false
set_option linter.unusedSimpArgs false
namespace Go.Ab
open Go.RowKit

def mvOf (ops : List Oper) (o : Oper) : Bool := match o.op with
  | .call c => match c.args.toList with
    | [_, .tmp t] => ops.any fun q => q.dst == some t && (match q.op with
      | .buildSlice _ _ _ => true
      | _ => false)
    | _ => false
  | _ => false
def compI (P : Program) (N : Fr) (md : Md) (ops : Array Oper) (o : Oper) : Option MI := match compG ops o.guard, compO P md (mvOf ops.toList o) o with
  | some g, some m => if dstOk N o.dst = true then some ⟨o.dst, g, m⟩ else none
  | _, _ => none
/-- Whatever order is drawn: a pair is ordered by an edge, or it may change places. -/
def edges (o : Oper) (i : Nat) : Bool := o.after.any fun e => Region.binds .any e && e.on == i
def path (ops : List Oper) : Nat → Oper → Nat → Bool
  | 0, o, i => edges o i
  | n + 1, o, i => edges o i || o.after.any fun e => Region.binds .any e && (match ops[e.on]? with
    | some o' => path ops n o' i
    | none => false)
/-- A call that is ordered with all else: it has its place. -/
def tot (ops : Array Oper) (i : Nat) (o : Oper) : Bool := (match o.op with
  | .call _ => true
  | _ => false) && (List.range ops.size).all fun j => j == i || (if j < i then path ops.toList 12 o j else match ops[j]? with
    | some q => path ops.toList 12 q i
    | none => false)
def compL (P : Program) (N : Fr) (md : Md) (ops : Array Oper) : List Oper → Option (List MI)
  | [] => some []
  | o :: l => match compI P N ⟨md.ns || (md.sf && tot ops (ops.size - l.length - 1) o), md.sf, md.em, md.al⟩ ops o, compL P N md ops l with
    | some m, some ms => some (m :: ms)
    | _, _ => none

def okPairs (ops : List Oper) (ms : List MI) : Bool :=
  (ops.zip ms).zipIdx.all fun p => (ops.zip ms).zipIdx.all fun q => !(decide (p.2 < q.2)) || (edges q.1.1 p.2 || (indep p.1.2 q.1.2 || path ops 12 q.1.1 p.2))
def okEdges (ops : List Oper) : Bool := ops.zipIdx.all fun p => p.1.after.all fun e => !(Region.binds .any e) || decide (e.on < p.2)

def Runs (P : Program) (b : Nat) : List (Nat × MI) → St → St → Prop
  | [], s, s' => s' = s
  | (i, m) :: l, s, s' => ∃ s1, Step P s (b + 64 * i) m s1 ∧ Runs P b l s1 s'

theorem absorb1_none {o o2 : Objs} {c : AV} {v : V} (h : absorb1 o c = some (v, o2)) {q : Nat} (hq : o q = none) : o2 q = none := by
  unfold absorb1 at h
  split at h
  · split at h
    · simp only [Option.some.injEq, Prod.mk.injEq] at h; obtain ⟨_, rfl⟩ := h; exact hq
    · cases h
  · split at h
    · rename_i hr
      simp only [Option.some.injEq, Prod.mk.injEq] at h; obtain ⟨_, rfl⟩ := h
      rw [upd_ne (fun e => by rw [e, hr] at hq; cases hq)]
      exact hq
    · cases h
  · cases h
theorem absorbL_none : ∀ {cs : List AV} {o o2 : Objs} {vs : List V} (h : absorbL o cs = some (vs, o2)) {q : Nat} (hq : o q = none), o2 q = none
  | [], o, o2, vs, h, q, hq => by simp only [absorbL, Option.some.injEq, Prod.mk.injEq] at h; obtain ⟨_, rfl⟩ := h; exact hq
  | c :: cs, o, o2, vs, h, q, hq => by
    simp only [absorbL] at h
    split at h
    · rename_i h1
      split at h
      · rename_i h2
        simp only [Option.some.injEq, Prod.mk.injEq] at h; obtain ⟨_, rfl⟩ := h
        exact absorbL_none h2 (absorb1_none h1 hq)
      · cases h
    · cases h
theorem elem_none {o o2 : Objs} {c : AV} {v : V} {f : Bool} (h : elem o c = some (v, f, o2)) {q : Nat} (hq : o q = none) : o2 q = none := by
  unfold elem at h
  split at h
  · rename_i v' o' h1
    simp only [Option.some.injEq, Prod.mk.injEq] at h; obtain ⟨_, _, rfl⟩ := h
    unfold absorb at h1
    split at h1
    · split at h1
      · rename_i h2
        simp only [Option.some.injEq, Prod.mk.injEq] at h1; obtain ⟨_, rfl⟩ := h1
        exact absorbL_none h2 hq
      · cases h1
    · split at h1
      · simp only [Option.some.injEq, Prod.mk.injEq] at h1; obtain ⟨_, rfl⟩ := h1; exact hq
      · cases h1
    · exact absorb1_none h1 hq
  · split at h
    · simp only [Option.some.injEq, Prod.mk.injEq] at h; obtain ⟨_, _, rfl⟩ := h; exact hq
    · cases h
theorem elems_none : ∀ {cs : List AV} {o o2 : Objs} {vs : List V} {f : Bool} (h : elems o cs = some (vs, f, o2)) {q : Nat} (hq : o q = none), o2 q = none
  | [], o, o2, vs, f, h, q, hq => by simp only [elems, Option.some.injEq, Prod.mk.injEq] at h; obtain ⟨_, _, rfl⟩ := h; exact hq
  | c :: cs, o, o2, vs, f, h, q, hq => by
    simp only [elems] at h
    split at h
    · rename_i h1
      split at h
      · rename_i h2
        simp only [Option.some.injEq, Prod.mk.injEq] at h; obtain ⟨_, _, rfl⟩ := h
        exact elems_none h2 (elem_none h1 hq)
      · cases h
    · cases h
theorem srcOf_none {r sz : Nat} {o o2 : Objs} {mv : Bool} {y : AV} {L : List V} {f : Bool} (h : srcOf r o sz mv y = some (L, f, o2)) {q : Nat} (hq : o q = none) : o2 q = none := by
  unfold srcOf at h
  split at h
  · split at h
    · rename_i hr
      split at h
      · cases h
      · split at h
        · simp only [Option.some.injEq, Prod.mk.injEq] at h; obtain ⟨_, _, rfl⟩ := h
          rw [upd_ne (fun e => by rw [e, hr] at hq; cases hq)]
          exact hq
        · split at h
          · simp only [Option.some.injEq, Prod.mk.injEq] at h; obtain ⟨_, _, rfl⟩ := h; exact hq
          · cases h
    · cases h
  · split at h
    · split at h
      · cases h
      · simp only [Option.some.injEq, Prod.mk.injEq] at h; obtain ⟨_, _, rfl⟩ := h; exact hq
    · cases h
  · split at h
    · split at h
      · cases h
      · simp only [Option.some.injEq, Prod.mk.injEq] at h; obtain ⟨_, _, rfl⟩ := h; exact hq
    · cases h
  · cases h

section
variable {P : Program} {N : Fr} {w0 : Base} {D0 : BSet} {E : Env} {st : St} {a : Act} {w : World} {s : St}

theorem appTo_none {id r off len : Nat} {own : Bool} {L : List V} {o : Objs} {y : AV} {sz bytes : Nat} {mv : Bool} {av : AV} {ob : Objs} (h : appTo id r off len own L o y sz bytes mv = some (av, ob)) (hr : o r ≠ none) {q : Nat} (hq : o q = none) (hne : q ≠ id) : ob q = none := by
  unfold appTo at h
  split at h
  · rename_i hs
    split at h
    · simp only [Option.some.injEq, Prod.mk.injEq] at h; obtain ⟨_, rfl⟩ := h
      rw [upd_ne hne, upd_ne (fun e => hr (by rw [← e]; exact hq))]
      exact srcOf_none hs hq
    · cases h
  · cases h

theorem newO_none {o : Objs} {q : Nat} (ho : o q = none) : ∀ {cs : List AV} {rs rs' : List R1} {l : List Nat}, takeML s cs = some (rs, l) → s.objs q = none → newO o cs rs' q = none
  | [], rs, rs', l, _, _ => by cases rs' <;> exact ho
  | c :: cs, rs, [], l, _, _ => by cases c <;> exact ho
  | c :: cs, rs, r' :: rs', l, ht, hq => by
    simp only [takeML] at ht
    split at ht
    · rename_i r1 l1 rs1 ls1 h1 h2
      have ih := newO_none (rs' := rs') ho h2 hq
      unfold takeM1 at h1
      split at h1
      · cases r' <;> exact ih
      · rename_i r off len
        cases r' with
        | val v => exact ih
        | row own sz L =>
          have hne : q ≠ r := by
            rintro rfl
            rw [hq] at h1
            cases h1
          simp only [newO]
          rw [upd_ne hne]
          exact ih
      · cases h1
    · cases ht
theorem newO2_none {o : Objs} {q : Nat} (ho : o q = none) {c : AV} {r r' : R2} {l : List Nat} (ht : takeM s c = some (r, l)) (hq : s.objs q = none) : newO2 o c r' q = none := by
  unfold takeM at ht
  split at ht
  · rename_i cs
    split at ht
    · rename_i h1
      cases r' with
      | one r' => cases r' <;> exact ho
      | agg rs' => exact newO_none ho h1 hq
    · cases ht
  · split at ht
    · rename_i r1 l1 h1
      cases r' with
      | one r' => exact newO_none (cs := [c]) (rs' := [r']) (rs := [r1]) (l := l1) ho (by simp [takeML, h1]) hq
      | agg rs' =>
        unfold newO2
        split
        · rename_i h; simp [takeM1] at h1
        · exact ho
    · cases ht

theorem inApp_none {r off len sz : Nat} {own : Bool} {L : List V} {c : AV} {av : AV} {ob : Objs} (h : inApp s r off len own sz L c = some (av, ob)) (hr : s.objs r ≠ none) {q : Nat} (hq : s.objs q = none) : ob q = none := by
  unfold inApp at h
  split at h
  · split at h
    · simp only [Option.some.injEq, Prod.mk.injEq] at h; obtain ⟨_, rfl⟩ := h
      rw [upd_ne (fun e : q = r => hr (by rw [← e]; exact hq))]
      exact hq
    · cases h
  · cases h
theorem step_none (hk : KnSt s) {id : Nat} {m : MI} {s' : St} (h : Step P s id m s') {q : Nat} (hq : s.objs q = none) (hout : q < id ∨ id + 64 ≤ q) : s'.objs q = none := by
  cases hsoft : m.op.soft with
  | true =>
    obtain ⟨av, G, hG, rfl, _⟩ := soft_step hk (fun r _ => rfl) hsoft (fun t _ => rfl) h
    rw [put_objs]
    simp only [over]
    cases hg : G q with
    | some x => have := hG q (by rw [hg]; simp); omega
    | none => exact hq
  | false =>
    rcases h with ⟨_, rfl⟩ | ⟨_, av, ob, hs, rfl⟩ | ⟨_, hx⟩
    rotate_left 2
    · have hsc : ∀ l, scrO l s.objs q = none := fun l => by simp [scrO, hq]
      split at hx
      · obtain ⟨d, _, hx⟩ := hx
        rcases hx with ⟨av, _, rfl⟩ | ⟨x, n, r, i', f, sz, L, e, z, T, _, _, _, _, _, rfl⟩
        · exact hq
        · exact hq
      · obtain ⟨_, hx⟩ := hx
        rcases hx with ⟨ro, rv, _, _, hx⟩ | ⟨r, off, len, own, sz, L, ro, res, ln, _, hobj, _, _, hfit, _, rfl⟩ | ⟨r, ks, cs, cs', ro, res, _, hobj, _, _, _, hfit, rfl⟩ | ⟨cs, ro, _, _, rfl⟩
        rotate_left
        · rw [put_objs, plV_other hfit hout, upd_ne (by rintro rfl; rw [hq] at hobj; cases hobj)]
          exact hq
        · rw [put_objs, plV_other hfit hout, upd_ne (by rintro rfl; rw [hq] at hobj; cases hobj)]
          unfold killO
          rw [hq]; split <;> rfl
        · rw [put_objs, upd_ne (by omega)]
          exact hq
        rcases hx with ⟨r, l, r', ht, _, _, _, rfl⟩ | ⟨t, r, i', f0, sz, L, e, z, T, T', _, _, hobj, _, _, _, _, rfl⟩
        · rw [put_objs]; exact newO2_none (hsc l) ht hq
        · rw [put_objs, upd_ne (by rintro rfl; rw [hq] at hobj; cases hobj)]
          exact hsc _
      · exact hx.elim
    · rw [put_objs]; exact hq
    · rw [put_objs]
      cases hop : m.op with
      | p k mo => rw [hop] at hs; obtain ⟨_, rfl⟩ := hs; exact hq
      | call k f xs => rw [hop] at hs; obtain ⟨ln, Vs, res, _, _, _, hfit, _, _, rfl⟩ := hs; rw [plV_other hfit hout]; exact hq
      | callv g xs => rw [hop] at hsoft; simp [AO.soft] at hsoft
      | f fo =>
      rw [hop] at hsoft hs
      simp only [AO.soft] at hsoft
      simp only [StepO] at hs
      cases fo <;> simp only [FO.soft] at hsoft <;> try (cases hsoft; done)
      case bsl sz xs =>
        simp only [eff] at hs
        split at hs
        · rename_i hel
          split at hs
          · simp only [Option.some.injEq, Prod.mk.injEq] at hs; obtain ⟨_, rfl⟩ := hs
            rw [upd_ne (by omega)]
            exact elems_none hel hq
          · cases hs
        · cases hs
      case app x y sz bytes mv =>
        simp only [eff] at hs
        split at hs
        · exact appTo_none hs (by simp [upd_same]) (by rw [upd_ne (by omega)]; exact hq) (by omega)
        · split at hs
          · split at hs
            · rename_i ho
              split at hs
              · split at hs
                · rename_i hap
                  simp only [Option.some.injEq] at hs; subst hs
                  exact appTo_none hap (by rw [ho]; simp) hq (by omega)
                · exact inApp_none hs (by rw [ho]; simp) hq
              · cases hs
            · cases hs
          · cases hs
      case clr x z sz =>
        simp only [eff] at hs
        split at hs
        · split at hs
          · rename_i ho
            split at hs
            · simp only [Option.some.injEq, Prod.mk.injEq] at hs; obtain ⟨_, rfl⟩ := hs
              rw [upd_ne (fun e => by rw [e, ho] at hq; cases hq)]
              exact hq
            · cases hs
          · cases hs
        · cases hs
      case mpu kd x k v =>
        simp only [eff] at hs
        split at hs
        · split at hs
          · rename_i ho
            split at hs
            · split at hs
              · simp only [Option.some.injEq, Prod.mk.injEq] at hs; obtain ⟨_, rfl⟩ := hs
                rw [upd_ne (fun e => by rw [e, ho] at hq; cases hq)]
                exact hq
              · cases hs
            · cases hs
          · cases hs
        · cases hs
      case men kd x k z =>
        simp only [eff] at hs
        split at hs
        · split at hs
          · rename_i ho
            split at hs
            · split at hs
              · simp only [Option.some.injEq, Prod.mk.injEq] at hs; obtain ⟨_, rfl⟩ := hs
                rw [upd_ne (fun e => by rw [e, ho] at hq; cases hq)]
                exact hq
              · cases hs
            · cases hs
          · cases hs
        · cases hs
      case mes x t v =>
        simp only [eff] at hs
        split at hs
        · split at hs
          · rename_i ho
            split at hs
            · split at hs
              · split at hs
                · simp only [Option.some.injEq, Prod.mk.injEq] at hs; obtain ⟨_, rfl⟩ := hs
                  rw [upd_ne (fun e => by rw [e, ho] at hq; cases hq)]
                  exact hq
                · cases hs
              · cases hs
            · cases hs
          · cases hs
        · cases hs
      case st x v n =>
        simp only [eff] at hs
        split at hs
        · split at hs
          · rename_i r i f _ own sz L ho
            split at hs
            · split at hs
              · rename_i hel
                split at hs
                · simp only [Option.some.injEq, Prod.mk.injEq] at hs; obtain ⟨_, rfl⟩ := hs
                  rw [upd_ne (fun e => by rw [e, ho] at hq; cases hq)]
                  exact elem_none hel hq
                · cases hs
              · cases hs
            · cases hs
          · rename_i r i f _ cs ho
            split at hs
            · split at hs
              · simp only [Option.some.injEq, Prod.mk.injEq] at hs; obtain ⟨_, rfl⟩ := hs
                rw [upd_ne (fun e => by rw [e, ho] at hq; cases hq)]
                exact hq
              · cases hs
            · cases hs
          · cases hs
        · cases hs

/-- What the compiled operations are. -/
def CompOk (P : Program) (N : Fr) (ops : Array Oper) (l : List (Nat × MI)) : Prop := ∀ p ∈ l, ∃ o md, ops[p.1]? = some o ∧ compI P N md ops o = some p.2

theorem compI_wp (hE : SimE N w0 D0 E st a w) {ops : Array Oper} {i : Nat} {o : Oper} {m : MI} (hi : ops[i]? = some o) {md : Md} (hc : compI P N md ops o = some m) {id : Nat} (hf : FreshAt st id) {st' : St} (hs : Step P st id m st') {K : Act → World → Prop} {Q : Exit → Act → World → Prop} (hk : ∀ E' a' w', SimE N w0 D0 E' st' a' w' → K a' w') : wpOp P ops Q i K a w := by
  unfold compI at hc
  split at hc
  · rename_i g mo hg hop
    split at hc
    · rename_i hd
      simp only [Option.some.injEq] at hc; subst hc
      exact step_wp hE hi (m := ⟨o.dst, g, mo⟩) hg hop rfl hd hf hs hk
    · cases hc
  · cases hc

/-- In the order of the list. -/
theorem runs_wp {ops : Array Oper} {b n : Nat} {Q : Exit → Act → World → Prop} {stf : St} (hQ : ∀ E a w, SimE N w0 D0 E stf a w → (∀ r, n ≤ r → stf.objs r = none) → Q .normal a w) :
    ∀ (l : List (Nat × MI)) {E : Env} {st : St} {a : Act} {w : World} (hE : SimE N w0 D0 E st a w) (hc : CompOk P N ops l) (hn : (l.map (·.1)).Nodup) (hf : ∀ p ∈ l, FreshAt st (b + 64 * p.1)) (hb : ∀ p ∈ l, b + 64 * p.1 + 64 ≤ n) (hz : ∀ r, n ≤ r → st.objs r = none) (hr : Runs P b l st stf), wpOps P ops Q (l.map (·.1)) a w
  | [], E, st, a, w, hE, _, _, _, _, hz, hr => by
    simp only [Runs] at hr
    subst hr
    exact hQ E a w hE hz
  | (i, m) :: l, E, st, a, w, hE, hc, hn, hf, hb, hz, hr => by
    obtain ⟨s1, hs, hr⟩ := hr
    obtain ⟨o, md, hi, hco⟩ := hc (i, m) (by simp)
    simp only [List.map_cons, List.nodup_cons] at hn
    rw [List.map_cons, wpOps_cons]
    refine compI_wp hE hi hco (hf (i, m) (by simp)) hs ?_
    intro E' a' w' hE'
    refine runs_wp hQ l hE' (fun p hp => hc p (by simp [hp])) hn.2 ?_ (fun p hp => hb p (by simp [hp])) (fun r hr => step_none hE.kn hs (hz r hr) (.inr (Nat.le_trans (hb (i, m) (by simp)) hr))) hr
    intro p hp k hk
    refine step_none hE.kn hs (hf p (by simp [hp]) k hk) ?_
    have hne : p.1 ≠ i := fun e => hn.1 (e ▸ List.mem_map_of_mem hp)
    omega

theorem move_front {b : Nat} {i : Nat} {mi : MI} {stf : St} : ∀ (R1 : List (Nat × MI)) {R2 : List (Nat × MI)} {s : St} (hk : KnSt s) (hn : ((R1 ++ (i, mi) :: R2).map (·.1)).Nodup) (hf : ∀ p ∈ R1 ++ (i, mi) :: R2, FreshAt s (b + 64 * p.1))
    (hin : ∀ p ∈ R1, indep p.2 mi = true) (hr : Runs P b (R1 ++ (i, mi) :: R2) s stf), ∃ s', Step P s (b + 64 * i) mi s' ∧ Runs P b (R1 ++ R2) s' stf
  | [], R2, s, hk, hn, hf, hin, hr => hr
  | (j, mj) :: R1, R2, s, hk, hn, hf, hin, hr => by
    obtain ⟨s1, hj, hr⟩ := hr
    simp only [List.cons_append, List.map_cons, List.nodup_cons] at hn
    have hji : j ≠ i := fun e => hn.1 (by rw [e]; simp)
    have hin1 := hin (j, mj) (by simp)
    have hfj : FreshAt s (b + 64 * j) := hf (j, mj) (by simp)
    have hfi : FreshAt s (b + 64 * i) := hf (i, mi) (by simp)
    -- s1 is known, too
    have hk1 : KnSt s1 := indep_kn hk hin1 hj
    obtain ⟨s2, hi2, hr2⟩ := move_front R1 hk1 hn.2 (by
      intro p hp k hkk
      refine step_none hk hj (hf p (by simp only [List.cons_append, List.mem_cons]; exact .inr hp) k hkk) ?_
      have hne : p.1 ≠ j := fun e => hn.1 (e ▸ List.mem_map_of_mem hp)
      omega) (fun p hp => hin p (by simp [hp])) hr
    obtain ⟨s1', h1, h2, _⟩ := swap hk hin1 (by omega) hfj hfi hj hi2
    exact ⟨s1', h1, s2, h2, hr2⟩

/-- What is listed has all that it stands behind listed. -/
def Down (ops : Array Oper) (listed : Array Bool) : Prop :=
  ∀ (j : Nat) (o : Oper), ops[j]? = some o → listed.getD j false = true → o.after.all (fun e => !Region.binds .any e || listed.getD e.on false) = true
theorem edges_listed {listed : Array Bool} {o : Oper} {i : Nat} (ho : o.after.all (fun e => !Region.binds .any e || listed.getD e.on false) = true) (h : edges o i = true) : listed.getD i false = true := by
  unfold edges at h
  simp only [Array.any_eq_true'] at h
  obtain ⟨e, he, h3⟩ := h
  simp only [Bool.and_eq_true, beq_iff_eq] at h3
  rw [Array.all_eq_true_iff_forall_mem] at ho
  have h4 := ho e he
  simp only [h3.1, Bool.not_true, Bool.false_or] at h4
  rw [← h3.2]; exact h4
theorem path_listed {ops : Array Oper} {listed : Array Bool} (hd : Down ops listed) : ∀ (n : Nat) (o : Oper) (i : Nat), o.after.all (fun e => !Region.binds .any e || listed.getD e.on false) = true → path ops.toList n o i = true → listed.getD i false = true
  | 0, o, i, ho, h => edges_listed ho h
  | n + 1, o, i, ho, h => by
    simp only [path, Bool.or_eq_true] at h
    rcases h with h | h
    · exact edges_listed ho h
    · simp only [Array.any_eq_true'] at h
      obtain ⟨e, he, h3⟩ := h
      simp only [Bool.and_eq_true] at h3
      have h4 := Array.all_eq_true_iff_forall_mem.1 ho e he
      simp only [h3.1, Bool.not_true, Bool.false_or] at h4
      have h5 := h3.2
      split at h5
      · rename_i o' ho'
        have ho2 : ops[e.on]? = some o' := by simpa using ho'
        exact path_listed hd n o' i (hd e.on o' ho2 h4) h5
      · cases h5

/-- In whatever order the edges allow. -/
theorem runs_any {ops : Array Oper} {ms : List MI} {b n : Nat} {Q : Exit → Act → World → Prop} {stf : St} (hQ : ∀ E a w, SimE N w0 D0 E stf a w → (∀ r, n ≤ r → stf.objs r = none) → Q .normal a w) (hlen : ms.length = ops.size) (hcomp : ∀ (i : Nat) (o : Oper) (m : MI), ops[i]? = some o → ms[i]? = some m → ∃ md, compI P N md ops o = some m)
    (hpairs : okPairs ops.toList ms = true) (hedges : okEdges ops.toList = true) :
    ∀ (fuel : Nat) (R : List (Nat × MI)) (listed : Array Bool) {E : Env} {st : St} {a : Act} {w : World} (hE : SimE N w0 D0 E st a w) (hfu : R.length ≤ fuel) (hsort : (R.map (·.1)).Pairwise (· < ·)) (hR : ∀ p ∈ R, ms[p.1]? = some p.2)
      (hls : listed.size = ops.size) (hdn : Down ops listed) (hl : ∀ i, i < ops.size → (listed.getD i true = false ↔ ∃ m, (i, m) ∈ R)) (hf : ∀ p ∈ R, FreshAt st (b + 64 * p.1)) (hb : ∀ p ∈ R, b + 64 * p.1 + 64 ≤ n) (hz : ∀ r, n ≤ r → st.objs r = none) (hr : Runs P b R st stf), wpAny P .any ops Q fuel listed a w := by
  have ready_mem : ∀ {listed : Array Bool} {i : Nat}, i ∈ Region.ready .any ops listed ↔ i < ops.size ∧ listed.getD i true = false ∧ ∃ o, ops[i]? = some o ∧ o.after.all (fun e => !Region.binds .any e || listed.getD e.on false) = true := by
    intro listed i
    unfold Region.ready
    rw [List.mem_filter, List.mem_range]
    constructor
    · rintro ⟨h1, h2⟩
      simp only [Bool.and_eq_true, Bool.not_eq_true'] at h2
      refine ⟨h1, h2.1, ops[i], Array.getElem?_eq_getElem h1, ?_⟩
      have := h2.2
      rw [Array.getElem?_eq_getElem h1] at this
      simpa using this
    · rintro ⟨h1, h2, o, h3, h4⟩
      refine ⟨h1, ?_⟩
      rw [h2, h3]
      simpa using h4
  intro fuel
  induction fuel with
  | zero =>
    intro R listed E st a w hE hfu hsort hR hls hdn hl hf hb hz hr
    have hR0 : R = [] := List.eq_nil_of_length_eq_zero (by omega)
    subst hR0
    simp only [Runs] at hr
    subst hr
    refine ⟨?_, hQ E a w hE hz⟩
    apply List.eq_nil_iff_forall_not_mem.2
    intro i hi
    obtain ⟨h1, h2, _⟩ := ready_mem.1 hi
    obtain ⟨m, hm⟩ := (hl i h1).1 h2
    simp at hm
  | succ fuel ih =>
    intro R listed E st a w hE hfu hsort hR hls hdn hl hf hb hz hr
    refine ⟨?_, ?_⟩
    · intro hempty
      cases R with
      | nil =>
        simp only [Runs] at hr
        subst hr
        exact hQ E a w hE hz
      | cons p R =>
        exfalso
        obtain ⟨i, m⟩ := p
        have hi : i < ops.size := by
          have := hR (i, m) (by simp)
          rw [← hlen]
          exact (List.getElem?_eq_some_iff.1 this).1
        have : i ∈ Region.ready .any ops listed := by
          refine ready_mem.2 ⟨hi, (hl i hi).2 ⟨m, by simp⟩, ops[i], Array.getElem?_eq_getElem hi, ?_⟩
          rw [Array.all_eq_true_iff_forall_mem]
          intro e he
          simp only [Bool.or_eq_true, Bool.not_eq_true']
          by_cases hb : Region.binds .any e = true
          · right
            have hlt : e.on < i := by
              unfold okEdges at hedges
              rw [List.all_eq_true] at hedges
              have := hedges (ops[i], i) (by rw [List.mem_zipIdx_iff_getElem?]; simp [Array.getElem?_eq_getElem hi])
              rw [Array.all_eq_true_iff_forall_mem] at this
              have := this e he
              simpa [hb] using this
            cases hq : listed.getD e.on true with
            | true =>
              have : e.on < listed.size := by omega
              simp only [Array.getD, this, dite_true] at hq ⊢
              exact hq
            | false =>
              exfalso
              obtain ⟨m', hm'⟩ := (hl e.on (by omega)).1 hq
              simp only [List.map_cons, List.pairwise_cons] at hsort
              rcases List.mem_cons.1 hm' with h | h
              · simp only [Prod.mk.injEq] at h; omega
              · have := hsort.1 e.on (List.mem_map.2 ⟨_, h, rfl⟩); omega
          · left; simpa using hb
        rw [hempty] at this
        simp at this
    · intro i hi
      obtain ⟨hi1, hi2, o, ho, hafter⟩ := ready_mem.1 hi
      obtain ⟨mi, hmi⟩ := (hl i hi1).1 hi2
      obtain ⟨R1, R2, rfl⟩ := List.append_of_mem hmi
      have hnodup : ((R1 ++ (i, mi) :: R2).map (·.1)).Nodup := hsort.imp (fun h => Nat.ne_of_lt h)
      have hin : ∀ p ∈ R1, indep p.2 mi = true := by
        intro p hp
        have hpl : p.1 < i := by
          rw [List.map_append, List.map_cons, List.pairwise_append] at hsort
          exact hsort.2.2 p.1 (List.mem_map_of_mem hp) i (by simp)
        have hpm := hR p (by simp [hp])
        have him := hR (i, mi) (by simp)
        have hp1 : p.1 < ops.size := by omega
        unfold okPairs at hpairs
        rw [List.all_eq_true] at hpairs
        have h1 := hpairs ((ops[p.1], p.2), p.1) (by rw [List.mem_zipIdx_iff_getElem?, List.getElem?_zip_eq_some]; exact ⟨by simp [Array.getElem?_eq_getElem hp1], hpm⟩)
        rw [List.all_eq_true] at h1
        have h2 := h1 ((o, mi), i) (by rw [List.mem_zipIdx_iff_getElem?, List.getElem?_zip_eq_some]; exact ⟨by simpa using ho, him⟩)
        simp only [hpl, decide_true, Bool.not_true, Bool.false_or, Bool.or_eq_true] at h2
        have hno : listed.getD p.1 false = true → False := by
          intro h4
          have h5 : listed.getD p.1 true = false := (hl p.1 hp1).2 ⟨p.2, by simp [hp]⟩
          have : p.1 < listed.size := by omega
          simp only [Array.getD, this, dite_true] at h4 h5
          rw [h4] at h5
          cases h5
        rcases h2 with h2 | h2 | h2
        · exact (hno (edges_listed hafter h2)).elim
        · exact h2
        · exact (hno (path_listed hdn 12 o p.1 hafter h2)).elim
      obtain ⟨s', hs, hr'⟩ := move_front R1 hE.kn hnodup hf hin hr
      obtain ⟨md, hco⟩ := hcomp i o mi ho (hR (i, mi) (by simp))
      refine compI_wp hE ho hco (hf (i, mi) (by simp)) hs ?_
      intro E' a' w' hE'
      have hni : ∀ p ∈ R1 ++ R2, p.1 ≠ i := by
        intro p hp e
        rw [List.map_append, List.map_cons, List.nodup_append] at hnodup
        obtain ⟨_, n2, n3⟩ := hnodup
        rcases List.mem_append.1 hp with hp | hp
        · exact n3 p.1 (List.mem_map_of_mem hp) i (by simp) e
        · rw [List.nodup_cons] at n2
          exact n2.1 (by rw [← e]; exact List.mem_map_of_mem (f := (·.1)) hp)
      refine ih (R1 ++ R2) (listed.setIfInBounds i true) hE' (by simp at hfu ⊢; omega) ?_ ?_ (by simpa using hls) ?_ ?_ ?_ (fun p hp => hb p (by rcases List.mem_append.1 hp with h | h <;> simp [h])) (fun r hr => step_none hE.kn hs (hz r hr) (.inr (Nat.le_trans (hb (i, mi) (by simp)) hr))) hr'
      · refine hsort.sublist ?_
        rw [List.map_append, List.map_append, List.map_cons]
        exact List.Sublist.append_left (List.sublist_cons_self _ _) _
      · intro p hp
        exact hR p (by rcases List.mem_append.1 hp with h | h <;> simp [h])
      · have up : ∀ q, listed.getD q false = true → (listed.setIfInBounds i true).getD q false = true := by
          intro q h
          by_cases e : q = i
          · subst e
            have : q < listed.size := by omega
            simp [Array.getD, this]
          · simp only [Array.getD_eq_getD_getElem?] at h ⊢
            rw [Array.getElem?_setIfInBounds_ne (fun h => e h.symm)]
            exact h
        intro j oj hoj hj
        have h0 : oj.after.all (fun e => !Region.binds .any e || listed.getD e.on false) = true := by
          by_cases e : j = i
          · subst e
            rw [ho] at hoj
            cases hoj
            exact hafter
          · refine hdn j oj hoj ?_
            simp only [Array.getD_eq_getD_getElem?] at hj ⊢
            rw [Array.getElem?_setIfInBounds_ne (fun h => e h.symm)] at hj
            exact hj
        rw [Array.all_eq_true_iff_forall_mem] at h0 ⊢
        intro e he
        have := h0 e he
        simp only [Bool.or_eq_true] at this ⊢
        rcases this with h | h
        · exact .inl h
        · exact .inr (up _ h)
      · intro q hq
        by_cases e : q = i
        · subst e
          constructor
          · intro h
            have : q < listed.size := by omega
            simp [Array.getD, this] at h
          · rintro ⟨m, hm⟩
            exact absurd rfl (hni _ hm)
        · have e1 : (listed.setIfInBounds i true).getD q true = listed.getD q true := by
            simp only [Array.getD_eq_getD_getElem?]
            rw [Array.getElem?_setIfInBounds_ne (fun h => e h.symm)]
          rw [e1, hl q hq]
          constructor
          · rintro ⟨m, hm⟩
            refine ⟨m, ?_⟩
            rcases List.mem_append.1 hm with h | h
            · simp [h]
            · rcases List.mem_cons.1 h with h | h
              · simp only [Prod.mk.injEq] at h; exact absurd h.1 e
              · simp [h]
          · rintro ⟨m, hm⟩
            refine ⟨m, ?_⟩
            rcases List.mem_append.1 hm with h | h <;> simp [h]
      · intro p hp k hk
        refine step_none hE.kn hs (hf p (by rcases List.mem_append.1 hp with h | h <;> simp [h]) k hk) ?_
        have := hni p hp
        omega
/-- a stands before b. -/
def Bef : List Nat → Nat → Nat → Prop
  | [], _, _ => False
  | c :: o, a, b => (c = a ∧ b ∈ o) ∨ Bef o a b
theorem Bef.mem : ∀ {o : List Nat} {a b : Nat}, Bef o a b → a ∈ o ∧ b ∈ o
  | c :: o, a, b, .inl ⟨e, h⟩ => ⟨by simp [e], by simp [h]⟩
  | c :: o, a, b, .inr h => ⟨List.mem_cons_of_mem _ h.mem.1, List.mem_cons_of_mem _ h.mem.2⟩
theorem Bef.trans : ∀ {o : List Nat} {a b c : Nat}, o.Nodup → Bef o a b → Bef o b c → Bef o a c
  | x :: o, a, b, c, hn, h1, h2 => by
    rw [List.nodup_cons] at hn
    rcases h1 with ⟨e1, m1⟩ | h1
    · rcases h2 with ⟨e2, m2⟩ | h2
      · exact .inl ⟨e1, m2⟩
      · exact .inl ⟨e1, h2.mem.2⟩
    · rcases h2 with ⟨e2, m2⟩ | h2
      · exact absurd (e2 ▸ h1.mem.2) hn.1
      · exact .inr (Bef.trans hn.2 h1 h2)
/-- An order that the edges allow. -/
structure OrdOk (ops : Array Oper) (o : List Nat) : Prop where
  nodup : o.Nodup
  mem : ∀ i, i ∈ o ↔ i < ops.size
  edge : ∀ i j q, ops[i]? = some q → edges q j = true → i ∈ o → Bef o j i

/-- Known to stand before: j before i. -/
def befK (ops : List Oper) (H : List (Nat × Nat)) : Nat → Nat → Nat → Bool
  | 0, i, j => (H.any fun h => h.2 == i && h.1 == j) || (match ops[i]? with
    | some q => edges q j
    | none => false)
  | n + 1, i, j => (H.any fun h => h.2 == i && (h.1 == j || befK ops H n h.1 j)) || (match ops[i]? with
    | some q => edges q j || q.after.any fun e => Region.binds .any e && befK ops H n e.on j
    | none => false)
def insT (ops : List Oper) (H : List (Nat × Nat)) (i : Nat) : List Nat → List Nat
  | [] => [i]
  | x :: l => if befK ops H 12 x i = true then i :: x :: l else x :: insT ops H i l
def topoK (ops : List Oper) (H : List (Nat × Nat)) : Nat → List Nat
  | 0 => []
  | n + 1 => insT ops H n (topoK ops H n)
def nodB : List Nat → Bool
  | [] => true
  | a :: l => !l.contains a && nodB l
def indB (ms : List MI) (a b : Nat) : Bool := match ms[a]?, ms[b]? with
  | some x, some y => indep x y
  | _, _ => false
def prsB (ops : List Oper) (ms : List MI) (H : List (Nat × Nat)) : List Nat → Bool
  | [] => true
  | a :: l => l.all (fun b => indB ms a b || befK ops H 12 b a) && prsB ops ms H l
def plan (ops : List Oper) (ms : List MI) (n : Nat) : List (Nat × Nat) → List (Nat × Nat) → Option (List (List Nat))
  | [], H => if (nodB (topoK ops H n) && ((List.range n).all (fun i => (topoK ops H n).contains i) && ((topoK ops H n).all (fun i => decide (i < n)) && prsB ops ms H (topoK ops H n)))) = true then some [topoK ops H n] else none
  | (p, q) :: cs, H => if (decide (p < n) && (decide (q < n) && !(p == q))) = true then
      (if (befK ops H 12 q p || befK ops H 12 p q) = true then plan ops ms n cs H else
        match plan ops ms n cs ((p, q) :: H), plan ops ms n cs ((q, p) :: H) with
        | some a, some b => some (a ++ b)
        | _, _ => none)
    else none
def confl (ops : List Oper) (ms : List MI) (n : Nat) : List (Nat × Nat) := (List.range n).flatMap fun q => (List.range q).filterMap fun p => if (indB ms p q || befK ops [] 12 q p) = true then none else some (p, q)
end
end Go.Ab
/- Code (own framework). -/
set_option linter.unusedVariables false
set_option linter.unusedSimpArgs false
namespace Go.Ab
open Go.RowKit

inductive MC where
  | skip
  | reg (ms : List MI)
  | alt (ms : List MI) (L : List (List Nat))
  | seq (a b : MC)
  | cond (x : X) (a b : MC)
  | block (id : Nat) (c : MC)
  | loop (c : MC)
  | exit (id : Nat)
  | ret
  | bad
  deriving Inhabited

def regC (P : Program) (N : Fr) (ops : Array Oper) (draw sf em : Bool) : Option (List MI) := match compL P N ⟨!draw, sf, em, false⟩ ops ops.toList with
  | some ms => if draw = false ∨ (P.follows .mixedOrders = true ∧ okPairs ops.toList ms = true ∧ okEdges ops.toList = true) then some ms else none
  | none => none
/-- All orders that tell. -/
def regA (P : Program) (N : Fr) (ops : Array Oper) : Option (List MI × List (List Nat)) := match compL P N ⟨false, false, false, true⟩ ops ops.toList with
  | some ms => if P.follows .mixedOrders = true ∧ okEdges ops.toList = true ∧ (confl ops.toList ms ops.size).length ≤ 8 then (match plan ops.toList ms ops.size (confl ops.toList ms ops.size) [] with
    | some L => some (ms, L)
    | none => none) else none
  | none => none
def compC (P : Program) (N : Fr) : Code → Option MC
  | .skip => some .skip
  | .region _ ops draw => match regC P N ops draw false false with
    | some ms => some (.reg ms)
    | none => match regC P N ops draw true false with
      | some ms => some (.reg ms)
      | none => match regC P N ops draw true true with
        | some ms => some (.reg ms)
        | none => if draw = true then (match regA P N ops with
          | some p => some (.alt p.1 p.2)
          | none => some .bad) else some .bad
  | .seq a b => match compC P N a, compC P N b with
    | some x, some y => some (.seq x y)
    | _, _ => none
  | .cond c a b => match compX c, compC P N a, compC P N b with
    | some c, some x, some y => some (.cond c x y)
    | _, _, _ => some .bad
  | .block id c => (compC P N c).map (.block id)
  | .loop c => (compC P N c).map .loop
  | .exit id => some (.exit id)
  | .ret => some .ret
  | _ => some .bad

abbrev Post0 := Exit → St → Prop
def Lift (N : Fr) (w0 : Base) (D0 : BSet) (Q : Post0) : Exit → Act → World → Prop
  | .normal, a, w => ∃ s, Q .normal s ∧ Sim N w0 D0 s a w
  | .exit id, a, w => ∃ s, Q (.exit id) s ∧ Sim N w0 D0 s a w
  | .ret, a, w => ∃ s, Q .ret s ∧ Sim N w0 D0 s a w
  | _, _, _ => False

def MW (P : Program) (N : Fr) (m : MC) (s : St) (Q : Post0) : Prop :=
  ∀ c, compC P N c = some m → ∀ w0 D0 a w, Sim N w0 D0 s a w → c.wp P (Lift N w0 D0 Q) a w

def thenQ (K : St → Prop) (Q : Post0) : Post0
  | .normal, s => K s
  | e, s => Q e s
def inBlockQ (id : Nat) (Q : Post0) : Post0
  | .exit id', s => if id' = id then Q .normal s else Q (.exit id') s
  | e, s => Q e s

def enum (i : Nat) : List MI → List (Nat × MI)
  | [] => []
  | m :: ms => (i, m) :: enum (i + 1) ms

section
variable {P : Program} {N : Fr} {s : St} {Q : Post0}

theorem mw_mono {m : MC} {Q' : Post0} (h : MW P N m s Q) (hq : ∀ e s, Q e s → Q' e s) : MW P N m s Q' := by
  intro c hc w0 D0 a w hs
  refine wp_mono (h c hc w0 D0 a w hs) ?_
  intro e a w h
  cases e <;> simp only [Lift] at h ⊢ <;> first | exact h | (obtain ⟨s, h1, h2⟩ := h; exact ⟨s, hq _ _ h1, h2⟩)

theorem mw_skip (h : Q .normal s) : MW P N .skip s Q := by
  intro c hc w0 D0 a w hs
  cases c <;> simp only [compC] at hc <;> try (cases hc; done)
  case skip => exact wp_skip ⟨s, h, hs⟩
  case region => (repeat' split at hc) <;> cases hc
  case seq => split at hc <;> cases hc
  case cond => split at hc <;> cases hc
  case block => simp at hc
  case loop => simp at hc

theorem mw_exit {id : Nat} (h : Q (.exit id) s) : MW P N (.exit id) s Q := by
  intro c hc w0 D0 a w hs
  cases c <;> simp only [compC] at hc <;> try (cases hc; done)
  case exit => simp only [Option.some.injEq, MC.exit.injEq] at hc; subst hc; exact wp_exit ⟨s, h, hs⟩
  case region => (repeat' split at hc) <;> cases hc
  case seq => split at hc <;> cases hc
  case cond => split at hc <;> cases hc
  case block => simp at hc
  case loop => simp at hc

theorem mw_ret (h : Q .ret s) : MW P N .ret s Q := by
  intro c hc w0 D0 a w hs
  cases c <;> simp only [compC] at hc <;> try (cases hc; done)
  case ret => exact wp_ret ⟨s, h, hs⟩
  case region => (repeat' split at hc) <;> cases hc
  case seq => split at hc <;> cases hc
  case cond => split at hc <;> cases hc
  case block => simp at hc
  case loop => simp at hc

theorem mw_seq {x y : MC} (h : MW P N x s (thenQ (fun s => MW P N y s Q) Q)) : MW P N (.seq x y) s Q := by
  intro c hc w0 D0 a w hs
  cases c <;> simp only [compC] at hc <;> try (cases hc; done)
  case region => (repeat' split at hc) <;> cases hc
  case cond => split at hc <;> cases hc
  case block => simp at hc
  case loop => simp at hc
  case seq c1 c2 =>
    split at hc
    · rename_i h1 h2
      simp only [Option.some.injEq, MC.seq.injEq] at hc
      obtain ⟨rfl, rfl⟩ := hc
      refine wp_seq (wp_mono (h c1 h1 w0 D0 a w hs) ?_)
      intro e a w h
      cases e <;> simp only [Lift, thenQ, Exit.then] at h ⊢ <;> try exact h
      obtain ⟨s', h, hs'⟩ := h
      exact h c2 h2 w0 D0 a w hs'
    · cases hc

theorem mw_cond {x : X} {y z : MC} {b : Bool} (hb : s.get x = .val none (.bool b)) (h : MW P N (if b = true then y else z) s Q) : MW P N (.cond x y z) s Q := by
  intro c hc w0 D0 a w hs
  cases c <;> simp only [compC] at hc <;> try (cases hc; done)
  case region => (repeat' split at hc) <;> cases hc
  case seq => split at hc <;> cases hc
  case block => simp at hc
  case loop => simp at hc
  case cond p c1 c2 =>
    split at hc
    · rename_i hx h1 h2
      simp only [Option.some.injEq, MC.cond.injEq] at hc
      obtain ⟨rfl, rfl, rfl⟩ := hc
      obtain ⟨E, hE, hn⟩ := hs
      have hr := get_rep hE hx
      rw [hb] at hr
      have hv : a.eval p = .bool b := by
        generalize a.eval p = v at hr
        cases hr with
        | val0 hr => cases hr; rfl
      refine wp_cond hv ?_
      cases b
      · exact h c2 h2 w0 D0 a w ⟨E, hE, hn⟩
      · exact h c1 h1 w0 D0 a w ⟨E, hE, hn⟩
    · cases hc

theorem mw_block {id : Nat} {x : MC} (h : MW P N x s (inBlockQ id Q)) : MW P N (.block id x) s Q := by
  intro c hc w0 D0 a w hs
  cases c <;> simp only [compC] at hc <;> try (cases hc; done)
  case region => (repeat' split at hc) <;> cases hc
  case seq => split at hc <;> cases hc
  case cond => split at hc <;> cases hc
  case loop => simp at hc
  case block id' c =>
    obtain ⟨x', h1, h2⟩ := Option.map_eq_some_iff.1 hc
    simp only [MC.block.injEq] at h2
    obtain ⟨rfl, rfl⟩ := h2
    refine wp_block (wp_mono (h c h1 w0 D0 a w hs) ?_)
    intro e a w h
    cases e <;> simp only [Lift, inBlockQ, Exit.inBlock] at h ⊢ <;> try exact h
    split <;> rename_i he <;> simp only [he, if_true, if_false] at h <;> exact h

theorem mw_loop {ι : Type} {x : MC} (I : ι → St → Prop) (μ : ι → Nat) {i0 : ι} (h0 : I i0 s)
    (round : ∀ i s, I i s → MW P N x s (thenQ (fun s' => ∃ i', I i' s' ∧ μ i' < μ i) Q)) : MW P N (.loop x) s Q := by
  intro c hc w0 D0 a w hs
  cases c <;> simp only [compC] at hc <;> try (cases hc; done)
  case region => (repeat' split at hc) <;> cases hc
  case seq => split at hc <;> cases hc
  case cond => split at hc <;> cases hc
  case block => simp at hc
  case loop c =>
    obtain ⟨x', h1, h2⟩ := Option.map_eq_some_iff.1 hc
    simp only [MC.loop.injEq] at h2
    subst h2
    -- the least measure under which these stand
    let J : Nat → Act → World → Prop := fun n a w => ∃ i s, I i s ∧ Sim N w0 D0 s a w ∧ μ i = n
    have least : ∀ a w n, J n a w → ∃ m, J m a w ∧ ∀ k, J k a w → m ≤ k := by
      intro a w n
      induction n using Nat.strongRecOn with
      | _ n ih =>
        intro hJ
        by_cases hk : ∃ k, k < n ∧ J k a w
        · obtain ⟨k, hk1, hk2⟩ := hk
          exact ih k hk1 hk2
        · refine ⟨n, hJ, fun k hk3 => ?_⟩
          by_cases hlt : k < n
          · exact absurd ⟨k, hlt, hk3⟩ hk
          · omega
    let μ' : Act → World → Nat := fun a w => open Classical in if h : ∃ m, J m a w ∧ ∀ k, J k a w → m ≤ k then h.choose else 0
    have hμ : ∀ a w n, J n a w → J (μ' a w) a w ∧ ∀ k, J k a w → μ' a w ≤ k := by
      intro a w n hJ
      have hx := least a w n hJ
      simp only [μ', dif_pos hx]
      exact hx.choose_spec
    refine wp_loop (fun a w => ∃ n, J n a w) μ' ⟨μ i0, i0, s, h0, hs, rfl⟩ ?_
    rintro a w ⟨n, hJ⟩
    obtain ⟨⟨i, s, hi, hsim, hm⟩, _⟩ := hμ a w n hJ
    refine wp_mono (round i s hi c h1 w0 D0 a w hsim) ?_
    intro e a' w' h
    cases e <;> simp only [Lift, thenQ, Exit.then] at h ⊢ <;> try exact h
    obtain ⟨s', ⟨i', hi', hlt⟩, hsim'⟩ := h
    have hJ' : J (μ i') a' w' := ⟨i', s', hi', hsim', rfl⟩
    refine ⟨⟨_, hJ'⟩, ?_⟩
    have := (hμ a' w' _ hJ').2 _ hJ'
    omega

theorem compL_get {md : Md} {ops : Array Oper} : ∀ {l : List Oper} {ms : List MI}, compL P N md ops l = some ms → ms.length = l.length ∧ ∀ (i : Nat) (o : Oper) (m : MI), l[i]? = some o → ms[i]? = some m → ∃ md, compI P N md ops o = some m
  | [], ms, h => by
    simp only [compL, Option.some.injEq] at h; subst h
    exact ⟨rfl, fun i o m h => by simp at h⟩
  | o :: l, ms, h => by
    simp only [compL] at h
    split at h
    · rename_i h1 h2
      simp only [Option.some.injEq] at h; subst h
      obtain ⟨k1, k2⟩ := compL_get h2
      refine ⟨by simp [k1], ?_⟩
      intro i o' m' q1 q2
      cases i with
      | zero => simp at q1 q2; subst q1; subst q2; exact ⟨_, h1⟩
      | succ i => simp at q1 q2; exact k2 i o' m' q1 q2
    · cases h

theorem enum_mem : ∀ {ms : List MI} {i : Nat} {p : Nat × MI}, p ∈ enum i ms → i ≤ p.1 ∧ ms[p.1 - i]? = some p.2
  | [], i, p, h => by simp [enum] at h
  | m :: ms, i, p, h => by
    simp only [enum, List.mem_cons] at h
    rcases h with rfl | h
    · simp
    · obtain ⟨h1, h2⟩ := enum_mem h
      refine ⟨by omega, ?_⟩
      have : p.1 - i = (p.1 - (i + 1)) + 1 := by omega
      rw [this]
      simpa using h2
theorem enum_at : ∀ {ms : List MI} {i j : Nat}, j < ms.length → ∃ m, (i + j, m) ∈ enum i ms
  | [], i, j, h => by simp at h
  | m :: ms, i, 0, h => ⟨m, by simp [enum]⟩
  | m :: ms, i, j + 1, h => by
    obtain ⟨m', h'⟩ := enum_at (i := i + 1) (ms := ms) (j := j) (by simpa using h)
    exact ⟨m', by simp only [enum, List.mem_cons]; right; have e : i + (j + 1) = i + 1 + j := by omega
                  rw [e]; exact h'⟩
theorem enum_fst : ∀ (ms : List MI) (i : Nat), (enum i ms).map (·.1) = List.range' i ms.length
  | [], i => rfl
  | m :: ms, i => by simp [enum, List.range'_succ, enum_fst ms (i + 1)]

theorem mw_reg {ms : List MI} {s' : St} (hr : Runs P s.next (enum 0 ms) s s') (h : Q .normal { s' with next := s.next + 64 * ms.length }) : MW P N (.reg ms) s Q := by
  intro c hc w0 D0 a w hs
  cases c <;> simp only [compC] at hc <;> try (cases hc; done)
  case seq => split at hc <;> cases hc
  case cond => split at hc <;> cases hc
  case block => simp at hc
  case loop => simp at hc
  case region id ops draw =>
    obtain ⟨E, hE, hn⟩ := hs
    have hfr : ∀ p ∈ enum 0 ms, FreshAt s (s.next + 64 * p.1) := fun p _ k _ => hn _ (by omega)
    have hc' : ∃ sf em, regC P N ops draw sf em = some ms := by
      split at hc
      · rename_i h1
        simp only [Option.some.injEq, MC.reg.injEq] at hc
        subst hc
        exact ⟨_, _, h1⟩
      · split at hc
        · rename_i h1
          simp only [Option.some.injEq, MC.reg.injEq] at hc
          subst hc
          exact ⟨_, _, h1⟩
        · split at hc
          · rename_i h1
            simp only [Option.some.injEq, MC.reg.injEq] at hc
            subst hc
            exact ⟨_, _, h1⟩
          · (repeat' split at hc) <;> cases hc
    clear hc
    obtain ⟨sf, em, hc⟩ := hc'
    unfold regC at hc
    split at hc
    · rename_i ms' hms
      obtain ⟨hlen, hget⟩ := compL_get hms
      have hfin : ∀ E' a' w', SimE N w0 D0 E' s' a' w' → (∀ r, s.next + 64 * ms.length ≤ r → s'.objs r = none) → Lift N w0 D0 Q .normal a' w' :=
        fun E' a' w' hE' hz => ⟨_, h, E', ⟨hE'.good, hE'.ew, hE'.eo, hE'.size, hE'.defers, hE'.tmps, hE'.fix, hE'.lk⟩, hz⟩
      have hb : ∀ p ∈ enum 0 ms, s.next + 64 * p.1 + 64 ≤ s.next + 64 * ms.length := by
        intro p hp
        have h1 := (enum_mem hp).2
        have := (List.getElem?_eq_some_iff.1 h1).1
        omega
      have hz : ∀ r, s.next + 64 * ms.length ≤ r → s.objs r = none := fun r hr => hn r (by omega)
      split at hc
      · rename_i hdk
        simp only [Option.some.injEq] at hc
        subst hc
        cases hdr : draw with
        | true =>
          have hk : P.follows .mixedOrders = true ∧ okPairs ops.toList ms' = true ∧ okEdges ops.toList = true := hdk.resolve_left (by rw [hdr]; simp)
          obtain ⟨hm, hp, he⟩ := hk
          subst hdr
          refine wp_region_any hm ?_
          have hE' : ∃ E', SimE N w0 D0 E' s a { w with drawn := w.drawn + 1 } := by
            have ew := hE.ew
            obtain ⟨le, g⟩ := stp_ok (w' := { E.w with drawn := E.w.drawn + 1 }) (D' := E.D) hE.good ⟨rfl, rfl, rfl, Nat.le_refl _, fun _ _ => rfl⟩ (fun g h => h) (fun g h => ⟨(hE.good.dIn g h).1, .inl h⟩)
            exact ⟨_, g, by simp [Env.stp, ew], hE.eo, hE.size, hE.defers, fun t => (hE.tmps t).le le, hE.fix, fun t r i f h => by
              obtain ⟨sz, L, e, z, T, g', o, cur, ty, k1, k2, k3, k4, k5, k6⟩ := hE.lk t r i f h
              exact ⟨sz, L, e, z, T, g', o, cur, ty, k1, k2, k3, k4, k5, k6⟩⟩
          obtain ⟨E', hE'⟩ := hE'
          have hls : ms'.length = ops.size := by simpa using hlen
          refine runs_any hfin hls (fun i o m q1 q2 => hget i o m (by simpa using q1) q2) hp he ops.size (enum 0 ms') _ hE' ?_ ?_ ?_ (by simp) (by intro j o _ h; simp [Array.getD] at h) ?_ hfr hb hz hr
          · have := congrArg List.length (enum_fst ms' 0)
            simp at this; omega
          · rw [enum_fst]; exact List.pairwise_lt_range'
          · intro p hp; simpa using (enum_mem hp).2
          · intro i hi
            constructor
            · intro _
              obtain ⟨m, hm⟩ := enum_at (ms := ms') (i := 0) (j := i) (by omega)
              exact ⟨m, by simpa using hm⟩
            · intro _; simp [Array.getD, hi]
        | false =>
        subst hdr
        refine wp_region ?_
        have hls : ms'.length = ops.size := by simpa using hlen
        have := runs_wp (ops := ops) (Q := Lift N w0 D0 Q) (b := s.next) hfin (enum 0 ms') hE ?_ ?_ hfr hb hz hr
        · rw [enum_fst, hls] at this
          rw [List.range_eq_range']
          exact this
        · intro p hp
          have h1 := (enum_mem hp).2
          simp only [Nat.sub_zero] at h1
          have hlt : p.1 < ops.size := by
            have := (List.getElem?_eq_some_iff.1 h1).1
            omega
          obtain ⟨md, hmd⟩ := hget p.1 ops[p.1] _ (by simp [hlt]) h1
          exact ⟨ops[p.1], md, Array.getElem?_eq_getElem hlt, hmd⟩
        · rw [enum_fst]; exact List.nodup_range'
      · cases hc
    · cases hc

end
end Go.Ab
