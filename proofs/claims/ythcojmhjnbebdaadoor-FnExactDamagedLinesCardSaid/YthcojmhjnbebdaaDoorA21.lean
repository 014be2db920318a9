/- Code (own framework). -/
import Derived.Test.YthcojmhjnbebdaaDoorA20
set_option linter.unusedVariables false
set_option linter.unusedSimpArgs false
namespace Go.Ab
open Go.RowKit

inductive MC where
  | skip
  | reg (ms : List MI)
  | seq (a b : MC)
  | cond (x : X) (a b : MC)
  | block (id : Nat) (c : MC)
  | loop (c : MC)
  | exit (id : Nat)
  | ret
  | bad
  deriving Inhabited

def regC (P : Program) (N : Fr) (ops : Array Oper) (draw sf : Bool) : Option (List MI) := match compL P N ⟨!draw, sf⟩ ops ops.toList with
  | some ms => if draw = false ∨ (P.follows .mixedOrders = true ∧ okPairs ops.toList ms = true ∧ okEdges ops.toList = true) then some ms else none
  | none => none
def compC (P : Program) (N : Fr) : Code → Option MC
  | .skip => some .skip
  | .region _ ops draw => match regC P N ops draw false with
    | some ms => some (.reg ms)
    | none => match regC P N ops draw true with
      | some ms => some (.reg ms)
      | none => some .bad
  | .seq a b => match compC P N a, compC P N b with
    | some x, some y => some (.seq x y)
    | _, _ => none
  | .cond c a b => match compX c, compC P N a, compC P N b with
    | some c, some x, some y => some (.cond c x y)
    | _, _, _ => some .bad
  | .block id c => (compC P N c).map (.block id)
  | .loop c => (compC P N c).map .loop
  | .exit id => some (.exit id)
  | .ret => some .ret
  | _ => some .bad

abbrev Post0 := Exit → St → Prop
def Lift (N : Fr) (w0 : Base) (D0 : BSet) (Q : Post0) : Exit → Act → World → Prop
  | .normal, a, w => ∃ s, Q .normal s ∧ Sim N w0 D0 s a w
  | .exit id, a, w => ∃ s, Q (.exit id) s ∧ Sim N w0 D0 s a w
  | .ret, a, w => ∃ s, Q .ret s ∧ Sim N w0 D0 s a w
  | _, _, _ => False

def MW (P : Program) (N : Fr) (m : MC) (s : St) (Q : Post0) : Prop :=
  ∀ c, compC P N c = some m → ∀ w0 D0 a w, Sim N w0 D0 s a w → c.wp P (Lift N w0 D0 Q) a w

def thenQ (K : St → Prop) (Q : Post0) : Post0
  | .normal, s => K s
  | e, s => Q e s
def inBlockQ (id : Nat) (Q : Post0) : Post0
  | .exit id', s => if id' = id then Q .normal s else Q (.exit id') s
  | e, s => Q e s

def enum (i : Nat) : List MI → List (Nat × MI)
  | [] => []
  | m :: ms => (i, m) :: enum (i + 1) ms

section
variable {P : Program} {N : Fr} {s : St} {Q : Post0}

theorem mw_mono {m : MC} {Q' : Post0} (h : MW P N m s Q) (hq : ∀ e s, Q e s → Q' e s) : MW P N m s Q' := by
  intro c hc w0 D0 a w hs
  refine wp_mono (h c hc w0 D0 a w hs) ?_
  intro e a w h
  cases e <;> simp only [Lift] at h ⊢ <;> first | exact h | (obtain ⟨s, h1, h2⟩ := h; exact ⟨s, hq _ _ h1, h2⟩)

theorem mw_skip (h : Q .normal s) : MW P N .skip s Q := by
  intro c hc w0 D0 a w hs
  cases c <;> simp only [compC] at hc <;> try (cases hc; done)
  case skip => exact wp_skip ⟨s, h, hs⟩
  case region => (repeat' split at hc) <;> cases hc
  case seq => split at hc <;> cases hc
  case cond => split at hc <;> cases hc
  case block => simp at hc
  case loop => simp at hc

theorem mw_exit {id : Nat} (h : Q (.exit id) s) : MW P N (.exit id) s Q := by
  intro c hc w0 D0 a w hs
  cases c <;> simp only [compC] at hc <;> try (cases hc; done)
  case exit => simp only [Option.some.injEq, MC.exit.injEq] at hc; subst hc; exact wp_exit ⟨s, h, hs⟩
  case region => (repeat' split at hc) <;> cases hc
  case seq => split at hc <;> cases hc
  case cond => split at hc <;> cases hc
  case block => simp at hc
  case loop => simp at hc

theorem mw_ret (h : Q .ret s) : MW P N .ret s Q := by
  intro c hc w0 D0 a w hs
  cases c <;> simp only [compC] at hc <;> try (cases hc; done)
  case ret => exact wp_ret ⟨s, h, hs⟩
  case region => (repeat' split at hc) <;> cases hc
  case seq => split at hc <;> cases hc
  case cond => split at hc <;> cases hc
  case block => simp at hc
  case loop => simp at hc

theorem mw_seq {x y : MC} (h : MW P N x s (thenQ (fun s => MW P N y s Q) Q)) : MW P N (.seq x y) s Q := by
  intro c hc w0 D0 a w hs
  cases c <;> simp only [compC] at hc <;> try (cases hc; done)
  case region => (repeat' split at hc) <;> cases hc
  case cond => split at hc <;> cases hc
  case block => simp at hc
  case loop => simp at hc
  case seq c1 c2 =>
    split at hc
    · rename_i h1 h2
      simp only [Option.some.injEq, MC.seq.injEq] at hc
      obtain ⟨rfl, rfl⟩ := hc
      refine wp_seq (wp_mono (h c1 h1 w0 D0 a w hs) ?_)
      intro e a w h
      cases e <;> simp only [Lift, thenQ, Exit.then] at h ⊢ <;> try exact h
      obtain ⟨s', h, hs'⟩ := h
      exact h c2 h2 w0 D0 a w hs'
    · cases hc

theorem mw_cond {x : X} {y z : MC} {b : Bool} (hb : s.get x = .val none (.bool b)) (h : MW P N (if b = true then y else z) s Q) : MW P N (.cond x y z) s Q := by
  intro c hc w0 D0 a w hs
  cases c <;> simp only [compC] at hc <;> try (cases hc; done)
  case region => (repeat' split at hc) <;> cases hc
  case seq => split at hc <;> cases hc
  case block => simp at hc
  case loop => simp at hc
  case cond p c1 c2 =>
    split at hc
    · rename_i hx h1 h2
      simp only [Option.some.injEq, MC.cond.injEq] at hc
      obtain ⟨rfl, rfl, rfl⟩ := hc
      obtain ⟨E, hE, hn⟩ := hs
      have hr := get_rep hE hx
      rw [hb] at hr
      have hv : a.eval p = .bool b := by
        generalize a.eval p = v at hr
        cases hr with
        | val0 hr => cases hr; rfl
      refine wp_cond hv ?_
      cases b
      · exact h c2 h2 w0 D0 a w ⟨E, hE, hn⟩
      · exact h c1 h1 w0 D0 a w ⟨E, hE, hn⟩
    · cases hc

theorem mw_condU {x : X} {y z : MC} (hb : s.get x = .ub) (h1 : MW P N y s Q) (h2 : MW P N z s Q) : MW P N (.cond x y z) s Q := by
  intro c hc w0 D0 a w hs
  cases c <;> simp only [compC] at hc <;> try (cases hc; done)
  case region => (repeat' split at hc) <;> cases hc
  case seq => split at hc <;> cases hc
  case block => simp at hc
  case loop => simp at hc
  case cond p c1 c2 =>
    split at hc
    · rename_i hx k1 k2
      simp only [Option.some.injEq, MC.cond.injEq] at hc
      obtain ⟨rfl, rfl, rfl⟩ := hc
      obtain ⟨E, hE, hn⟩ := hs
      have hr := get_rep hE hx
      rw [hb] at hr
      have hv : ∃ b, a.eval p = .bool b := by
        generalize a.eval p = v at hr
        cases hr with
        | ub => exact ⟨_, rfl⟩
      obtain ⟨b, hv⟩ := hv
      refine wp_cond hv ?_
      cases b
      · exact h2 c2 k2 w0 D0 a w ⟨E, hE, hn⟩
      · exact h1 c1 k1 w0 D0 a w ⟨E, hE, hn⟩
    · cases hc

theorem mw_block {id : Nat} {x : MC} (h : MW P N x s (inBlockQ id Q)) : MW P N (.block id x) s Q := by
  intro c hc w0 D0 a w hs
  cases c <;> simp only [compC] at hc <;> try (cases hc; done)
  case region => (repeat' split at hc) <;> cases hc
  case seq => split at hc <;> cases hc
  case cond => split at hc <;> cases hc
  case loop => simp at hc
  case block id' c =>
    obtain ⟨x', h1, h2⟩ := Option.map_eq_some_iff.1 hc
    simp only [MC.block.injEq] at h2
    obtain ⟨rfl, rfl⟩ := h2
    refine wp_block (wp_mono (h c h1 w0 D0 a w hs) ?_)
    intro e a w h
    cases e <;> simp only [Lift, inBlockQ, Exit.inBlock] at h ⊢ <;> try exact h
    split <;> rename_i he <;> simp only [he, if_true, if_false] at h <;> exact h

theorem mw_loop {ι : Type} {x : MC} (I : ι → St → Prop) (μ : ι → Nat) {i0 : ι} (h0 : I i0 s)
    (round : ∀ i s, I i s → MW P N x s (thenQ (fun s' => ∃ i', I i' s' ∧ μ i' < μ i) Q)) : MW P N (.loop x) s Q := by
  intro c hc w0 D0 a w hs
  cases c <;> simp only [compC] at hc <;> try (cases hc; done)
  case region => (repeat' split at hc) <;> cases hc
  case seq => split at hc <;> cases hc
  case cond => split at hc <;> cases hc
  case block => simp at hc
  case loop c =>
    obtain ⟨x', h1, h2⟩ := Option.map_eq_some_iff.1 hc
    simp only [MC.loop.injEq] at h2
    subst h2
    -- the least measure under which these stand
    let J : Nat → Act → World → Prop := fun n a w => ∃ i s, I i s ∧ Sim N w0 D0 s a w ∧ μ i = n
    have least : ∀ a w n, J n a w → ∃ m, J m a w ∧ ∀ k, J k a w → m ≤ k := by
      intro a w n
      induction n using Nat.strongRecOn with
      | _ n ih =>
        intro hJ
        by_cases hk : ∃ k, k < n ∧ J k a w
        · obtain ⟨k, hk1, hk2⟩ := hk
          exact ih k hk1 hk2
        · refine ⟨n, hJ, fun k hk3 => ?_⟩
          by_cases hlt : k < n
          · exact absurd ⟨k, hlt, hk3⟩ hk
          · omega
    let μ' : Act → World → Nat := fun a w => open Classical in if h : ∃ m, J m a w ∧ ∀ k, J k a w → m ≤ k then h.choose else 0
    have hμ : ∀ a w n, J n a w → J (μ' a w) a w ∧ ∀ k, J k a w → μ' a w ≤ k := by
      intro a w n hJ
      have hx := least a w n hJ
      simp only [μ', dif_pos hx]
      exact hx.choose_spec
    refine wp_loop (fun a w => ∃ n, J n a w) μ' ⟨μ i0, i0, s, h0, hs, rfl⟩ ?_
    rintro a w ⟨n, hJ⟩
    obtain ⟨⟨i, s, hi, hsim, hm⟩, _⟩ := hμ a w n hJ
    refine wp_mono (round i s hi c h1 w0 D0 a w hsim) ?_
    intro e a' w' h
    cases e <;> simp only [Lift, thenQ, Exit.then] at h ⊢ <;> try exact h
    obtain ⟨s', ⟨i', hi', hlt⟩, hsim'⟩ := h
    have hJ' : J (μ i') a' w' := ⟨i', s', hi', hsim', rfl⟩
    refine ⟨⟨_, hJ'⟩, ?_⟩
    have := (hμ a' w' _ hJ').2 _ hJ'
    omega

theorem compL_get {md : Md} {ops : Array Oper} : ∀ {l : List Oper} {ms : List MI}, compL P N md ops l = some ms → ms.length = l.length ∧ ∀ (i : Nat) (o : Oper) (m : MI), l[i]? = some o → ms[i]? = some m → ∃ md, compI P N md ops o = some m
  | [], ms, h => by
    simp only [compL, Option.some.injEq] at h; subst h
    exact ⟨rfl, fun i o m h => by simp at h⟩
  | o :: l, ms, h => by
    simp only [compL] at h
    split at h
    · rename_i h1 h2
      simp only [Option.some.injEq] at h; subst h
      obtain ⟨k1, k2⟩ := compL_get h2
      refine ⟨by simp [k1], ?_⟩
      intro i o' m' q1 q2
      cases i with
      | zero => simp at q1 q2; subst q1; subst q2; exact ⟨_, h1⟩
      | succ i => simp at q1 q2; exact k2 i o' m' q1 q2
    · cases h

theorem enum_mem : ∀ {ms : List MI} {i : Nat} {p : Nat × MI}, p ∈ enum i ms → i ≤ p.1 ∧ ms[p.1 - i]? = some p.2
  | [], i, p, h => by simp [enum] at h
  | m :: ms, i, p, h => by
    simp only [enum, List.mem_cons] at h
    rcases h with rfl | h
    · simp
    · obtain ⟨h1, h2⟩ := enum_mem h
      refine ⟨by omega, ?_⟩
      have : p.1 - i = (p.1 - (i + 1)) + 1 := by omega
      rw [this]
      simpa using h2
theorem enum_at : ∀ {ms : List MI} {i j : Nat}, j < ms.length → ∃ m, (i + j, m) ∈ enum i ms
  | [], i, j, h => by simp at h
  | m :: ms, i, 0, h => ⟨m, by simp [enum]⟩
  | m :: ms, i, j + 1, h => by
    obtain ⟨m', h'⟩ := enum_at (i := i + 1) (ms := ms) (j := j) (by simpa using h)
    exact ⟨m', by simp only [enum, List.mem_cons]; right; have e : i + (j + 1) = i + 1 + j := by omega
                  rw [e]; exact h'⟩
theorem enum_fst : ∀ (ms : List MI) (i : Nat), (enum i ms).map (·.1) = List.range' i ms.length
  | [], i => rfl
  | m :: ms, i => by simp [enum, List.range'_succ, enum_fst ms (i + 1)]

theorem mw_reg {ms : List MI} {s' : St} (hr : Runs P s.next (enum 0 ms) s s') (h : Q .normal { s' with next := s.next + 64 * ms.length }) : MW P N (.reg ms) s Q := by
  intro c hc w0 D0 a w hs
  cases c <;> simp only [compC] at hc <;> try (cases hc; done)
  case seq => split at hc <;> cases hc
  case cond => split at hc <;> cases hc
  case block => simp at hc
  case loop => simp at hc
  case region id ops draw =>
    obtain ⟨E, hE, hn⟩ := hs
    have hfr : ∀ p ∈ enum 0 ms, FreshAt s (s.next + 64 * p.1) := fun p _ k _ => hn _ (by omega)
    have hc' : ∃ sf, regC P N ops draw sf = some ms := by
      split at hc
      · rename_i h1
        simp only [Option.some.injEq, MC.reg.injEq] at hc
        subst hc
        exact ⟨_, h1⟩
      · split at hc
        · rename_i h1
          simp only [Option.some.injEq, MC.reg.injEq] at hc
          subst hc
          exact ⟨_, h1⟩
        · cases hc
    clear hc
    obtain ⟨sf, hc⟩ := hc'
    unfold regC at hc
    split at hc
    · rename_i ms' hms
      obtain ⟨hlen, hget⟩ := compL_get hms
      have hfin : ∀ E' a' w', SimE N w0 D0 E' s' a' w' → (∀ r, s.next + 64 * ms.length ≤ r → s'.objs r = none) → Lift N w0 D0 Q .normal a' w' :=
        fun E' a' w' hE' hz => ⟨_, h, E', ⟨hE'.good, hE'.ew, hE'.eo, hE'.size, hE'.defers, hE'.tmps, hE'.fix, hE'.lk⟩, hz⟩
      have hb : ∀ p ∈ enum 0 ms, s.next + 64 * p.1 + 64 ≤ s.next + 64 * ms.length := by
        intro p hp
        have h1 := (enum_mem hp).2
        have := (List.getElem?_eq_some_iff.1 h1).1
        omega
      have hz : ∀ r, s.next + 64 * ms.length ≤ r → s.objs r = none := fun r hr => hn r (by omega)
      split at hc
      · rename_i hdk
        simp only [Option.some.injEq] at hc
        subst hc
        cases hdr : draw with
        | true =>
          have hk : P.follows .mixedOrders = true ∧ okPairs ops.toList ms' = true ∧ okEdges ops.toList = true := hdk.resolve_left (by rw [hdr]; simp)
          obtain ⟨hm, hp, he⟩ := hk
          subst hdr
          refine wp_region_any hm ?_
          have hE' : ∃ E', SimE N w0 D0 E' s a { w with drawn := w.drawn + 1 } := by
            have ew := hE.ew
            obtain ⟨le, g⟩ := stp_ok (w' := { E.w with drawn := E.w.drawn + 1 }) (D' := E.D) hE.good ⟨rfl, rfl, rfl, Nat.le_refl _, fun _ _ => rfl⟩ (fun g h => h) (fun g h => ⟨(hE.good.dIn g h).1, .inl h⟩)
            exact ⟨_, g, by simp [Env.stp, ew], hE.eo, hE.size, hE.defers, fun t => (hE.tmps t).le le, hE.fix, fun t r i f h => by
              obtain ⟨sz, L, e, z, T, g', o, cur, ty, k1, k2, k3, k4, k5, k6⟩ := hE.lk t r i f h
              exact ⟨sz, L, e, z, T, g', o, cur, ty, k1, k2, k3, k4, k5, k6⟩⟩
          obtain ⟨E', hE'⟩ := hE'
          have hls : ms'.length = ops.size := by simpa using hlen
          refine runs_any hfin hls (fun i o m q1 q2 => hget i o m (by simpa using q1) q2) hp he ops.size (enum 0 ms') _ hE' ?_ ?_ ?_ (by simp) (by intro j o _ h; simp [Array.getD] at h) ?_ hfr hb hz hr
          · have := congrArg List.length (enum_fst ms' 0)
            simp at this; omega
          · rw [enum_fst]; exact List.pairwise_lt_range'
          · intro p hp; simpa using (enum_mem hp).2
          · intro i hi
            constructor
            · intro _
              obtain ⟨m, hm⟩ := enum_at (ms := ms') (i := 0) (j := i) (by omega)
              exact ⟨m, by simpa using hm⟩
            · intro _; simp [Array.getD, hi]
        | false =>
        subst hdr
        refine wp_region ?_
        have hls : ms'.length = ops.size := by simpa using hlen
        have := runs_wp (ops := ops) (Q := Lift N w0 D0 Q) (b := s.next) hfin (enum 0 ms') hE ?_ ?_ hfr hb hz hr
        · rw [enum_fst, hls] at this
          rw [List.range_eq_range']
          exact this
        · intro p hp
          have h1 := (enum_mem hp).2
          simp only [Nat.sub_zero] at h1
          have hlt : p.1 < ops.size := by
            have := (List.getElem?_eq_some_iff.1 h1).1
            omega
          obtain ⟨md, hmd⟩ := hget p.1 ops[p.1] _ (by simp [hlt]) h1
          exact ⟨ops[p.1], md, Array.getElem?_eq_getElem hlt, hmd⟩
        · rw [enum_fst]; exact List.nodup_range'
      · cases hc
    · cases hc
end
end Go.Ab
