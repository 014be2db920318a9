/- Stores (own framework). -/
import Derived.Test.YtpnmhfbiaajaeaaGreatDoorA9
set_option linter.unusedVariables false
set_option linter.unusedSimpArgs false
namespace Go.Ab
open Go.RowKit

def reb (e : V) (cs : List V) : V := match e with
  | .agg _ => .agg cs
  | _ => cs.headD default
/-- Element e with the cells from f on replaced. -/
def patch (e : V) (f : Nat) (us : List V) : V := reb e (e.cells.take f ++ us ++ e.cells.drop (f + us.length))

section
variable {P : Program} {N : Fr} {w0 : Base} {D0 : BSet} {E : Env} {st : St} {a : Act} {w : World}

def Env.upr (E : Env) (o2 : Objs) (w' : World) (D' : BSet) (r : Nat) (ob : Root) (T : BSet) : Env :=
  { w := w', D := D', S := upd E.S r T, loc := E.loc, objs := upd o2 r (some ob) }

def sameShape : Root → Root → Prop
  | .row _ sz L, .row _ sz' L' => sz' = sz ∧ L'.length = L.length
  | .box _, .box _ => True
  | .map _, .map _ => True
  | _, _ => False

structure UpOk (E : Env) (o2 : Objs) (w' : World) (D' : BSet) (r g : Nat) (T : BSet) : Prop where
  dies : Dies E.objs o2
  lr : live (o2 r) = true
  loc : ∃ q, E.loc r = some (g, q)
  dSub : ∀ x, E.D x → D' x
  dNew : ∀ x, D' x → E.D x ∨ ((Gone E o2 x ∨ E.S r x) ∧ ¬ T x)
  own : ∀ x, T x → Gone E o2 x ∨ E.S r x
  keep : ∀ x, E.S r x → T x ∨ D' x
  oth : ∀ x, x ≠ g → w'.heap[x]? = E.w.heap[x]?
  at_ : ∀ cur e, E.w.heap[g]? = some (.cells cur e (0, 0)) → ∃ cur' e', w'.heap[g]? = some (.cells cur' e' (0, 0)) ∧ cur'.size = cur.size
  size : w'.heap.size = E.w.heap.size
  os : w'.os = E.w.os
  tape : w'.tape = E.w.tape
  output : w'.output = E.w.output

theorem up_ne (hg : Good w0 D0 E) {o2 : Objs} {w' : World} {D' : BSet} {r g : Nat} {T : BSet} (h : UpOk E o2 w' D' r g T) :
    (∀ x, E.D x → x ≠ g) ∧ (∀ r', live (E.objs r') = true → ∀ x, E.S r' x → x ≠ g) ∧ (∀ r', r' ≠ r → live (E.objs r') = true → ∀ x, E.own r' x → x ≠ g) ∧ w0.new g := by
  obtain ⟨q, hl⟩ := h.loc
  have hlr := (h.dies.live h.lr).2
  have hgo : E.own r g := .inr ⟨q, hl⟩
  obtain ⟨g1, g2, g3⟩ := hg.ownIn r hlr g hgo
  refine ⟨fun x hx e => g3 (e ▸ hx), ?_, ?_, g1⟩
  · intro r' hl' x hx e
    subst e
    by_cases er : r' = r
    · subst er; exact hg.ownS r' hl' x q hl hx
    · exact hg.apart r' r er hl' hlr x (.inl hx) hgo
  · intro r' er hl' x hx e
    subst e
    exact hg.apart r' r er hl' hlr x hx hgo

theorem up_le (hg : Good w0 D0 E) {o2 : Objs} {w' : World} {D' : BSet} {r g : Nat} {ob ob0 : Root} {T : BSet} (h : UpOk E o2 w' D' r g T) (h0 : E.objs r = some ob0) (hs : sameShape ob0 ob) : E.Le (E.upr o2 w' D' r ob T) := by
  obtain ⟨hD, hS, hO, _⟩ := up_ne hg h
  refine ⟨fun x hx => ⟨h.dSub x hx, h.oth x (hD x hx)⟩, ?_, ?_⟩
  · intro r' hr'
    simp only [Env.upr]
    by_cases e : r' = r
    · subst e; simp [upd_same]
    · rw [upd_ne e]
      intro hn
      rcases h.dies r' with e' | ⟨e', _⟩
      · exact hr' (e' ▸ hn)
      · rw [e'] at hn; cases hn
  · intro r' hr' o' ho' hnd
    simp only [Env.upr] at ho' ⊢
    by_cases e : r' = r
    · subst e
      rw [upd_same] at ho' ⊢
      simp only [Option.some.injEq] at ho'
      subst ho'
      refine ⟨ob0, h0, trivial, fun x hx => ⟨h.keep x hx, h.oth x (hS r' (h.dies.live h.lr).2 x hx)⟩, by cases ob0 <;> cases ob <;> simp_all [sameShape], ?_⟩
      intro g' q hq cur e hc
      obtain ⟨q', hl⟩ := h.loc
      rw [hl] at hq
      simp only [Option.some.injEq, Prod.mk.injEq] at hq
      obtain ⟨rfl, rfl⟩ := hq
      exact h.at_ cur e hc
    · rw [upd_ne e] at ho' ⊢
      have hl : live (o2 r') = true := by rw [ho']; cases o' <;> first | rfl | exact absurd rfl hnd
      obtain ⟨e', l'⟩ := h.dies.live hl
      refine ⟨o', by rw [← e']; exact ho', trivial, fun x hx => ⟨.inl hx, h.oth x (hS r' l' x hx)⟩, by cases o' <;> simp_all, ?_⟩
      intro g' q hq cur e'' hc
      exact ⟨cur, e'', (h.oth g' (hO r' e l' g' (.inr ⟨q, hq⟩))).trans hc, rfl⟩

theorem up_good (hg : Good w0 D0 E) {o2 : Objs} {w' : World} {D' : BSet} {r g : Nat} {ob ob0 : Root} {T : BSet} (h : UpOk E o2 w' D' r g T) (h0 : E.objs r = some ob0) (hs : sameShape ob0 ob)
    (hr : RootRep (E.upr o2 w' D' r ob T) r ob) : Good w0 D0 (E.upr o2 w' D' r ob T) := by
  have hle := up_le hg h h0 hs
  obtain ⟨hD, hS, hO, hg0⟩ := up_ne hg h
  have hlr := (h.dies.live h.lr).2
  have hlive : ∀ r', r' ≠ r → live ((E.upr o2 w' D' r ob T).objs r') = true → live (o2 r') = true ∧ live (E.objs r') = true := by
    intro r' hne hl
    simp only [Env.upr] at hl
    rw [upd_ne hne] at hl
    exact ⟨hl, (h.dies.live hl).2⟩
  have hown : ∀ r', r' ≠ r → ∀ x, (E.upr o2 w' D' r ob T).own r' x → E.own r' x := by
    intro r' hne x ho
    simpa [Env.own, Env.upr, upd_ne hne] using ho
  have hownR : ∀ x, (E.upr o2 w' D' r ob T).own r x → Gone E o2 x ∨ E.own r x := by
    intro x ho
    simp only [Env.own, Env.upr, upd_same] at ho
    rcases ho with ho | ho
    · exact (h.own x ho).imp (fun h => h) (fun h => .inl h)
    · exact .inr (.inr ho)
  have gone_in : ∀ x, Gone E o2 x → w0.new x ∧ x < E.w.heap.size ∧ ¬ E.D x ∧ x ≠ g := by
    rintro x ⟨r', hl', hdd, ho'⟩
    obtain ⟨q1, q2, q3⟩ := hg.ownIn r' hl' x ho'
    refine ⟨q1, q2, q3, ?_⟩
    by_cases er : r' = r
    · subst er; have := h.lr; rw [hdd] at this; cases this
    · exact hO r' er hl' x ho'
  refine ⟨⟨h.os.trans hg.below.os, h.tape.trans hg.below.tape, h.output.trans hg.below.output, by simp only [Env.upr]; rw [h.size]; exact hg.below.size, ?_, ?_⟩, ?_, fun x hx => h.dSub x (hg.d0 x hx), ?_, ?_, ?_, ?_, hg.tabs.keep hle.d⟩
  · intro k hk hn
    have hkg : k ≠ g := by
      rintro rfl
      rcases hg0 with h1 | h1
      · omega
      · exact hn h1
    exact (h.oth k hkg).trans (hg.below.block k hk hn)
  · intro k cur e hc
    obtain ⟨c1, e1, k1, s1⟩ := hg.below.held k cur e hc
    by_cases hkg : k = g
    · subst hkg
      obtain ⟨c2, e2, k2, s2⟩ := h.at_ c1 e1 k1
      exact ⟨c2, e2, k2, s2.trans s1⟩
    · exact ⟨c1, e1, (h.oth k hkg).trans k1, s1⟩
  · intro x hx
    simp only [Env.upr] at hx ⊢
    rw [h.size]
    rcases h.dNew x hx with hd | ⟨hd | hd, _⟩
    · exact hg.dIn x hd
    · obtain ⟨q1, q2, _⟩ := gone_in x hd
      exact ⟨q2, .inr q1⟩
    · obtain ⟨q1, q2, _⟩ := hg.ownIn r hlr x (.inl hd)
      exact ⟨q2, .inr q1⟩
  · intro r' o ho
    by_cases e : r' = r
    · subst e
      simp only [Env.upr, upd_same, Option.some.injEq] at ho
      subst ho
      exact hr
    · by_cases hdead : o = .dead
      · subst hdead; trivial
      · have hl : live ((E.upr o2 w' D' r ob T).objs r') = true := by rw [ho]; cases o <;> first | rfl | exact absurd rfl hdead
        obtain ⟨l1, l2⟩ := hlive r' e hl
        have ho' : E.objs r' = some o := by
          rw [← (h.dies.live l1).1]
          simpa [Env.upr, upd_ne e] using ho
        exact (hg.roots r' o ho').le hle rfl (by simp [Env.upr, upd_ne e]) (fun x hx => h.oth x (hO r' e l2 x hx))
  · intro r' hl x ho
    by_cases e : r' = r
    · subst e
      have hin : w0.new x ∧ x < E.w.heap.size := by
        rcases hownR x ho with hx | hx
        · exact ⟨(gone_in x hx).1, (gone_in x hx).2.1⟩
        · exact ⟨(hg.ownIn r' hlr x hx).1, (hg.ownIn r' hlr x hx).2.1⟩
      refine ⟨hin.1, by simp only [Env.upr]; rw [h.size]; exact hin.2, ?_⟩
      intro hd
      simp only [Env.upr] at hd
      rcases h.dNew x hd with hd | ⟨hd, hnT⟩
      · rcases hownR x ho with hx | hx
        · exact (gone_in x hx).2.2.1 hd
        · exact (hg.ownIn r' hlr x hx).2.2 hd
      · simp only [Env.own, Env.upr, upd_same] at ho
        rcases ho with ho | ⟨q, ho⟩
        · exact hnT ho
        · obtain ⟨q', hl'⟩ := h.loc
          rw [hl'] at ho
          simp only [Option.some.injEq, Prod.mk.injEq] at ho
          obtain ⟨rfl, rfl⟩ := ho
          rcases hd with hd | hd
          · exact (gone_in g hd).2.2.2 rfl
          · exact hS r' hlr g hd rfl
    · obtain ⟨l1, l2⟩ := hlive r' e hl
      have ho' := hown r' e x ho
      obtain ⟨q1, q2, q3⟩ := hg.ownIn r' l2 x ho'
      refine ⟨q1, by simp only [Env.upr]; rw [h.size]; exact q2, fun hd => ?_⟩
      simp only [Env.upr] at hd
      rcases h.dNew x hd with hd | ⟨⟨r2, hl2, hdd, ho2⟩ | hd, _⟩
      · exact q3 hd
      · by_cases er : r' = r2
        · subst er; rw [hdd] at l1; cases l1
        · exact hg.apart r' r2 er l2 hl2 x ho' ho2
      · exact hg.apart r' r e l2 hlr x ho' (.inl hd)
  · intro r' hl x q hq
    by_cases e : r' = r
    · subst e
      simp only [Env.upr, upd_same] at hq ⊢
      obtain ⟨q', hl'⟩ := h.loc
      rw [hl'] at hq
      simp only [Option.some.injEq, Prod.mk.injEq] at hq
      obtain ⟨rfl, rfl⟩ := hq
      intro ht
      rcases h.own g ht with hx | hx
      · exact (gone_in g hx).2.2.2 rfl
      · exact hS r' hlr g hx rfl
    · obtain ⟨l1, l2⟩ := hlive r' e hl
      simp only [Env.upr, upd_ne e] at hq ⊢
      exact hg.ownS r' l2 x q hq
  · have cross : ∀ r', r' ≠ r → live (o2 r') = true → live (E.objs r') = true → ∀ x, E.own r' x → ¬ (E.upr o2 w' D' r ob T).own r x := by
      intro r' e l1 l2 x ho hn
      rcases hownR x hn with ⟨r2, hl2, hdd, ho2⟩ | hx
      · by_cases er : r' = r2
        · subst er; rw [hdd] at l1; cases l1
        · exact hg.apart r' r2 er l2 hl2 x ho ho2
      · exact hg.apart r' r e l2 hlr x ho hx
    intro r1 r2 hne hl1 hl2 x ho1 ho2
    by_cases e : r1 = r
    · have e' : r2 ≠ r := fun h => hne (e.trans h.symm)
      obtain ⟨l1, l2⟩ := hlive r2 e' hl2
      subst e
      exact cross r2 e' l1 l2 x (hown r2 e' x ho2) ho1
    · obtain ⟨l1, l2⟩ := hlive r1 e hl1
      by_cases e' : r2 = r
      · subst e'
        exact cross r1 e l1 l2 x (hown r1 e x ho1) ho2
      · obtain ⟨l1', l2'⟩ := hlive r2 e' hl2
        exact hg.apart r1 r2 hne l2 l2' x (hown r1 e x ho1) (hown r2 e' x ho2)

theorem patch_cells {e : V} {f : Nat} {us : List V} (hf : f + us.length ≤ e.cells.length) (h1 : ∀ c ∈ us, V.one c = true) (hpos : 0 < us.length) : (patch e f us).cells = e.cells.take f ++ us ++ e.cells.drop (f + us.length) := by
  unfold patch
  cases e <;> first
    | (simp only [reb, V.cells]; done)
    | (simp only [V.cells, List.length_cons, List.length_nil] at hf ⊢
       have hf0 : f = 0 := by omega
       have hl : us.length = 1 := by omega
       subst hf0
       match us, hl with
       | [u], _ =>
         simp only [List.take_zero, List.nil_append, List.length_cons, List.length_nil, Nat.zero_add, List.drop_succ_cons, List.drop_zero, List.append_nil, reb, List.headD_cons]
         exact V.cells_one (h1 u (by simp)))

theorem flat_set {sz : Nat} : ∀ {L : List V} (hu : Uni sz L) {i : Nat} {e e' : V} (hi : L[i]? = some e) {f : Nat} {us : List V} (hf : f + us.length ≤ sz) (he : e'.cells = e.cells.take f ++ us ++ e.cells.drop (f + us.length)),
    (L.set i e').flatMap V.cells = (L.flatMap V.cells).take (i * sz + f) ++ us ++ (L.flatMap V.cells).drop (i * sz + f + us.length)
  | [], _, i, e, e', hi, f, us, _, _ => by simp at hi
  | x :: L, hu, 0, e, e', hi, f, us, hf, he => by
    simp at hi; subst hi
    have hx := (hu x (by simp)).1
    simp only [List.set_cons_zero, List.flatMap_cons, he, Nat.zero_mul, Nat.zero_add]
    rw [List.take_append_of_le_length (by omega), List.drop_append_of_le_length (by omega)]
    simp
  | x :: L, hu, i + 1, e, e', hi, f, us, hf, he => by
    simp at hi
    have hx := (hu x (by simp)).1
    have ih := flat_set (fun z hz => hu z (by simp [hz])) hi hf he
    simp only [List.set_cons_succ, List.flatMap_cons, ih]
    have e1 : (i + 1) * sz + f = x.cells.length + (i * sz + f) := by rw [hx, Nat.succ_mul]; omega
    rw [e1, List.take_append, List.drop_append]
    have e2 : x.cells.length + (i * sz + f) + us.length - x.cells.length = i * sz + f + us.length := by omega
    have e3 : x.cells.length + (i * sz + f) - x.cells.length = i * sz + f := by omega
    rw [e2, e3, List.take_of_length_le (l := x.cells) (by omega), List.drop_eq_nil_of_le (as := x.cells) (by omega)]
    simp

theorem Uni.set {sz : Nat} {L : List V} (hu : Uni sz L) {i : Nat} {e : V} (he : e.cells.length = sz) (h1 : ∀ c ∈ e.cells, V.one c = true) : Uni sz (L.set i e) := by
  intro x hx
  rcases List.mem_or_eq_of_mem_set hx with hx | rfl
  · exact hu x hx
  · exact ⟨he, h1⟩

/-- A store of several cells. -/
theorem run_storeVar {t n : Nat} (hn : sizeT P t = some n) {g o : Nat} {cur : Array Value} {e : TypeId} (hh : w.heap[g]? = some (.cells cur e (0, 0))) {v : Value} (hv : v.cells.size = n) (h1 : ∀ u ∈ v.cells.toList, u.oneCell' = true) (hfit : o + n ≤ cur.size) :
    (storeVar t ⟨g, o, none⟩ v).run P w = .ok () (w.setRow g (cur.toList.take o ++ v.cells.toList ++ cur.toList.drop (o + n)).toArray) := by
  have hst := run_storeCells_at P g o e v.cells.toList 0 cur w hh (by simp; omega) h1
  simp only [Nat.add_zero, Array.length_toList, hv] at hst
  simp [storeVar, run_sizeOf' hn, hv, hst]

/-- A store into an element of a row. -/
theorem store_row (hg : Good w0 D0 E) {r i f n sz : Nat} {own : Bool} {L : List V} {x v : Value} (hx : AvRep E (.ptr r i f) x) (ho : E.objs r = some (.row own sz L)) {e : V} (hi : L[i]? = some e)
    {o2 : Objs} (hd : Dies E.objs o2) (hl2 : live (o2 r) = true) {u : V} {fl : Bool} {T : BSet} (hu : Rep E.w E.D fl u v T) (hT : ∀ q, T q → Gone E o2 q) (hn : u.cells.length = n) (hpos : 0 < n) (hf : f + n ≤ sz) {t : TypeId} (ht : sizeT P t = some n) :
    ∃ w' E', (Instr.storeAt t x v).run P E.w = .ok () w' ∧ E.Le E' ∧ Good w0 D0 E' ∧ E'.w = w' ∧ E'.objs = upd o2 r (some (.row (own && fl) sz (L.set i (patch e f u.cells)))) := by
  cases hx with
  | ptrRow hr h h' =>
    obtain ⟨hil, g, o, hl, rfl⟩ := h _ _ _ ho
    have hlr : live (E.objs r) = true := live_row ho
    have hroot := hg.roots r _ ho
    simp only [RootRep, hl] at hroot
    obtain ⟨vs, ⟨cur, ct, hcur, hcells⟩, hU, hrr⟩ := hroot
    obtain ⟨hce, hones⟩ := hU e (List.mem_of_getElem? hi)
    obtain ⟨hc1, hc2⟩ := hu.cells
    have hvn : v.cells.size = n := by rw [← hn, hc1.length]; simp
    have hvo : ∀ y ∈ v.cells.toList, y.oneCell' = true := Reps.ones hc1 hc2
    have hvl : vs.length = L.length * sz := by rw [← hrr.length, hU.flat_length]
    have hisz : (i + 1) * sz ≤ L.length * sz := Nat.mul_le_mul_right _ hil
    have hisz' : (i + 1) * sz = i * sz + sz := Nat.succ_mul _ _
    have hbig : o + vs.length ≤ cur.size := by
      rcases Nat.eq_zero_or_pos vs.length with h0 | h0
      · omega
      · have hlast := hcells (vs.length - 1) (vs[vs.length - 1]'(by omega)) (List.getElem?_eq_getElem (by omega))
        have := (Array.getElem?_eq_some_iff.1 hlast).1
        omega
    have hfit : o + i * sz + f + n ≤ cur.size := by omega
    have hrun : (Instr.storeAt t (.pointer (some ⟨g, o + i * sz + f, none⟩)) v).run P E.w = .ok () (E.w.setRow g (cur.toList.take (o + i * sz + f) ++ v.cells.toList ++ cur.toList.drop (o + i * sz + f + n)).toArray) := by
      simp only [Instr.storeAt, Instr.sureAddr, Sem.run_bind, Sem.run_pure, Result.andThen_ok]
      exact run_storeVar ht hcur hvn hvo hfit
    have hnS := hg.ownS r hlr g o hl
    have hD : ∀ q, E.D q → q ≠ g := fun q hq e => (hg.ownIn r hlr g (.inr ⟨o, hl⟩)).2.2 (e ▸ hq)
    have gone_ne : ∀ q, Gone E o2 q → q ≠ g ∧ ¬ E.S r q ∧ ¬ E.D q := by
      rintro q ⟨r', hl', hdd, ho'⟩
      have er : r' ≠ r := by rintro rfl; rw [hdd] at hl2; cases hl2
      exact ⟨fun e => hg.apart r' r er hl' hlr q ho' (.inr ⟨o, e ▸ hl⟩), fun hs => hg.apart r' r er hl' hlr q ho' (.inl hs), (hg.ownIn r' hl' q ho').2.2⟩
    have hk : UpOk E o2 (E.w.setRow g (cur.toList.take (o + i * sz + f) ++ v.cells.toList ++ cur.toList.drop (o + i * sz + f + n)).toArray) (fun q => E.D q ∨ ((own && fl) = false ∧ (Gone E o2 q ∨ E.S r q))) r g (fun q => (own && fl) = true ∧ (E.S r q ∨ T q)) := by
      refine ⟨hd, hl2, ⟨o, hl⟩, fun q hq => .inl hq, ?_, ?_, ?_, fun q hq => setRow_other E.w g q _ hq, ?_, by simp [World.setRow], rfl, rfl, rfl⟩
      · rintro q (hq | ⟨hf', hq⟩)
        · exact .inl hq
        · exact .inr ⟨hq, fun h => by rw [hf'] at h; cases h.1⟩
      · rintro q ⟨_, hq | hq⟩
        · exact .inr hq
        · exact .inl (hT q hq)
      · intro q hq
        cases hof : (own && fl) with
        | true => exact .inl ⟨rfl, .inl hq⟩
        | false => exact .inr (.inr ⟨rfl, .inr hq⟩)
      · intro cur2 e2 h2
        rw [hcur] at h2
        simp only [Option.some.injEq, Obj.cells.injEq, and_true] at h2
        obtain ⟨rfl, rfl⟩ := h2
        exact ⟨_, _, setRow_heap E.w g cur _ ct _ hcur, by simp; omega⟩
    have hpc : (patch e f u.cells).cells = e.cells.take f ++ u.cells ++ e.cells.drop (f + u.cells.length) := patch_cells (by omega) hc2 (by omega)
    refine ⟨_, E.upr o2 _ _ r (.row (own && fl) sz (L.set i (patch e f u.cells))) _, hrun, up_le hg hk ho ⟨rfl, by simp⟩, up_good hg hk ho ⟨rfl, by simp⟩ ?_, rfl, rfl⟩
    simp only [RootRep, Env.upr, hl, upd_same]
    refine ⟨vs.take (i * sz + f) ++ v.cells.toList ++ vs.drop (i * sz + f + n), ⟨_, ct, setRow_heap E.w g cur _ ct _ hcur, ?_⟩, hU.set ?_ ?_, ?_⟩
    · intro j y hj
      simp only [List.getElem?_toArray]
      have hA : (cur.toList.take (o + i * sz + f)).length = o + i * sz + f := by simp; omega
      have hB : (vs.take (i * sz + f)).length = i * sz + f := by simp; omega
      have hvc : v.cells.toList.length = n := by simpa using hvn
      rw [List.append_assoc, List.getElem?_append, hB] at hj
      rw [List.append_assoc, List.getElem?_append, hA]
      split at hj
      · rename_i hlt
        rw [if_pos (by omega), List.getElem?_take, if_pos (by omega)]
        rw [List.getElem?_take, if_pos hlt] at hj
        simpa using hcells j y hj
      · rename_i hge
        rw [if_neg (by omega)]
        rw [List.getElem?_append, hvc] at hj ⊢
        have e1 : o + j - (o + i * sz + f) = j - (i * sz + f) := by omega
        rw [e1]
        split at hj
        · rename_i hlt
          rw [if_pos hlt]; exact hj
        · rename_i hge2
          rw [if_neg hge2]
          rw [List.getElem?_drop] at hj ⊢
          have e2 : o + i * sz + f + n + (j - (i * sz + f) - n) = o + j := by omega
          have e3 : i * sz + f + n + (j - (i * sz + f) - n) = j := by omega
          rw [e2]
          rw [e3] at hj
          simpa using hcells j y hj
    · rw [hpc]; simp; omega
    · rw [hpc]
      intro c hc
      rcases List.mem_append.1 hc with hc | hc
      · rcases List.mem_append.1 hc with hc | hc
        · exact hones c (List.mem_of_mem_take hc)
        · exact hc2 c hc
      · exact hones c (List.mem_of_mem_drop hc)
    · rw [flat_set hU hi (by omega) hpc, hn]
      have keepw : ∀ (X : Nat → Prop), (∀ q, X q → q ≠ g) → ∀ q, X q → (E.w.setRow g (cur.toList.take (o + i * sz + f) ++ v.cells.toList ++ cur.toList.drop (o + i * sz + f + n)).toArray).heap[q]? = E.w.heap[q]? := fun X hX q hq => setRow_other E.w g q _ (hX q hq)
      have hrr2 := hrr
      rw [← List.take_append_drop (i * sz + f) (L.flatMap V.cells)] at hrr2
      obtain ⟨x1, x2, S1, S2, hxx, q1, q2, qd, qs1, qs2⟩ := Reps.split hrr2
      have hx1 : x1.length = i * sz + f := by rw [← q1.length]; simp [hU.flat_length]; omega
      have e1 : x1 = vs.take (i * sz + f) := by rw [hxx, List.take_left' hx1]
      have q3 : Reps E.w E.D own ((L.flatMap V.cells).drop (i * sz + f + n)) (vs.drop (i * sz + f + n)) S2 := by
        have := q2.drop n
        rw [List.drop_drop] at this
        have e2 : x2.drop n = vs.drop (i * sz + f + n) := by
          have e3 : i * sz + f + n - (i * sz + f) = n := by omega
          rw [hxx, List.drop_append, hx1, List.drop_eq_nil_of_le (as := x1) (by omega), e3, List.nil_append]
        rw [e2] at this
        exact this
      rw [e1] at q1
      cases hof : (own && fl) with
      | true =>
        obtain ⟨ho1, hf1⟩ := (Bool.and_eq_true _ _ ▸ hof : own = true ∧ fl = true)
        subst ho1; subst hf1
        have kD : ∀ q, E.D q → (E.D q ∨ ((true : Bool) = false ∧ (Gone E o2 q ∨ E.S r q))) ∧ (E.w.setRow g (cur.toList.take (o + i * sz + f) ++ v.cells.toList ++ cur.toList.drop (o + i * sz + f + n)).toArray).heap[q]? = E.w.heap[q]? := fun q hq => ⟨.inl hq, setRow_other E.w g q _ (hD q hq)⟩
        have a1 := q1.keep kD (fun _ q hq => setRow_other E.w g q _ (fun e => hnS (e ▸ qs1 q hq)))
        have a2 := hc1.keep kD (fun _ q hq => setRow_other E.w g q _ (gone_ne q (hT q hq)).1)
        have a3 := q3.keep kD (fun _ q hq => setRow_other E.w g q _ (fun e => hnS (e ▸ qs2 q hq)))
        refine Reps.append (S1 := fun q => S1 q ∨ T q) (S2 := S2) (Reps.append a1 a2 (fun q h1 h2 => (gone_ne q (hT q h2)).2.1 (qs1 q h1)) (fun q h => .inl h) (fun q h => .inr h)) a3 ?_ ?_ (fun q h => ⟨rfl, .inl (qs2 q h)⟩)
        · rintro q (h1 | h1) h2
          · exact qd q h1 h2
          · exact (gone_ne q (hT q h1)).2.1 (qs2 q h2)
        · rintro q (h1 | h1)
          · exact ⟨rfl, .inl (qs1 q h1)⟩
          · exact ⟨rfl, .inr h1⟩
      | false =>
        have lendS : ∀ {xs : List V} {ys : List Value} {Z : BSet}, Reps E.w E.D own xs ys Z → (∀ q, Z q → E.S r q) → Reps (E.w.setRow g (cur.toList.take (o + i * sz + f) ++ v.cells.toList ++ cur.toList.drop (o + i * sz + f + n)).toArray) (fun q => E.D q ∨ (false = false ∧ (Gone E o2 q ∨ E.S r q))) false xs ys Emp := by
          intro xs ys Z hz hZ
          have b := hz.keep (w' := E.w.setRow g (cur.toList.take (o + i * sz + f) ++ v.cells.toList ++ cur.toList.drop (o + i * sz + f + n)).toArray) (D' := E.D) (fun q hq => ⟨hq, setRow_other E.w g q _ (hD q hq)⟩) (fun _ q hq => setRow_other E.w g q _ (fun e => hnS (e ▸ hZ q hq)))
          exact Reps.lend (fun q hq => .inl hq) b (fun _ q hq => .inr ⟨rfl, .inr (hZ q hq)⟩)
        have b2 : Reps (E.w.setRow g (cur.toList.take (o + i * sz + f) ++ v.cells.toList ++ cur.toList.drop (o + i * sz + f + n)).toArray) (fun q => E.D q ∨ (false = false ∧ (Gone E o2 q ∨ E.S r q))) false u.cells v.cells.toList Emp := by
          have b := hc1.keep (w' := E.w.setRow g (cur.toList.take (o + i * sz + f) ++ v.cells.toList ++ cur.toList.drop (o + i * sz + f + n)).toArray) (D' := E.D) (fun q hq => ⟨hq, setRow_other E.w g q _ (hD q hq)⟩) (fun _ q hq => setRow_other E.w g q _ (gone_ne q (hT q hq)).1)
          exact Reps.lend (fun q hq => .inl hq) b (fun _ q hq => .inr ⟨rfl, .inl (hT q hq)⟩)
        exact Reps.append (S1 := Emp) (S2 := Emp) (Reps.append (S1 := Emp) (S2 := Emp) (lendS q1 qs1) b2 (fun _ h => h.elim) (fun _ h => h) (fun _ h => h)) (lendS q3 qs2) (fun _ h => h.elim) (fun _ h => h.elim) (fun _ h => h.elim)

/-- A store into a variable. -/
theorem store_box (hg : Good w0 D0 E) {r i f n : Nat} {cs us : List AV} {x v : Value} (hx : AvRep E (.ptr r i f) x) (ho : E.objs r = some (.box cs)) (hu : AvReps E us v.cells.toList) (h1 : ∀ y ∈ v.cells.toList, y.oneCell' = true) (hn : us.length = n) (hf : f + n ≤ cs.length)
    {t : TypeId} (ht : sizeT P t = some n) :
    ∃ w' E', (Instr.storeAt t x v).run P E.w = .ok () w' ∧ E.Le E' ∧ Good w0 D0 E' ∧ E'.w = w' ∧ E'.objs = upd E.objs r (some (.box (cs.take f ++ us ++ cs.drop (f + n)))) := by
  cases hx with
  | ptrRow hr h h' =>
    obtain ⟨hi0, g, hl, rfl⟩ := h' _ ho
    have hlr : live (E.objs r) = true := by rw [ho]; rfl
    obtain ⟨g', cur, ct, hl', hcur, hreps, hone⟩ := hg.roots r _ ho
    rw [hl] at hl'
    simp only [Option.some.injEq, Prod.mk.injEq, and_true] at hl'
    subst hl'
    have hvn : v.cells.size = n := by rw [← hn, hu.length]; simp
    have hcl : cs.length = cur.size := by rw [hreps.length]; simp
    have hrun : (Instr.storeAt t (.pointer (some ⟨g, f, none⟩)) v).run P E.w = .ok () (E.w.setRow g (cur.toList.take f ++ v.cells.toList ++ cur.toList.drop (f + n)).toArray) := by
      simp only [Instr.storeAt, Instr.sureAddr, Sem.run_bind, Sem.run_pure, Result.andThen_ok]
      exact run_storeVar ht hcur hvn h1 (by omega)
    have hk : UpOk E E.objs (E.w.setRow g (cur.toList.take f ++ v.cells.toList ++ cur.toList.drop (f + n)).toArray) E.D r g (E.S r) := by
      refine ⟨Dies.refl _, hlr, ⟨0, hl⟩, fun q hq => hq, fun q hq => .inl hq, fun q hq => .inr hq, fun q hq => .inl hq, fun q hq => setRow_other E.w g q _ hq, ?_, by simp [World.setRow], rfl, rfl, rfl⟩
      intro cur2 e2 h2
      rw [hcur] at h2
      simp only [Option.some.injEq, Obj.cells.injEq, and_true] at h2
      obtain ⟨rfl, rfl⟩ := h2
      exact ⟨_, _, setRow_heap E.w g cur _ ct _ hcur, by simp; omega⟩
    have hle := up_le (ob := .box (cs.take f ++ us ++ cs.drop (f + n))) hg hk ho trivial
    refine ⟨_, E.upr E.objs _ _ r (.box (cs.take f ++ us ++ cs.drop (f + n))) _, hrun, hle, up_good hg hk ho trivial ?_, rfl, rfl⟩
    refine ⟨g, _, ct, hl, setRow_heap E.w g cur _ ct _ hcur, ?_, ?_⟩
    · exact ((((hreps.le hle).take f).append (hu.le hle)).append ((hreps.le hle).drop (f + n)))
    · intro y hy
      simp only at hy
      rcases List.mem_append.1 hy with hy | hy
      · rcases List.mem_append.1 hy with hy | hy
        · exact hone y (List.mem_of_mem_take hy)
        · exact h1 y hy
      · exact hone y (List.mem_of_mem_drop hy)

/-- Elements that own nothing are written over a part of a row. -/
theorem write_row (hg : Good w0 D0 E) {r k sz : Nat} {own : Bool} {L M : List V} {g o : Nat} (ho : E.objs r = some (.row own sz L)) (hl : E.loc r = some (g, o)) {ns : List Value} (hM : Reps E.w E.D own (M.flatMap V.cells) ns Emp) (hu : Uni sz M) (hk : k + M.length ≤ L.length) (hpos : 0 < ns.length)
    {cur : Array Value} {ct : TypeId} (hcur : E.w.heap[g]? = some (.cells cur ct (0, 0))) :
    ∃ E', E.Le E' ∧ Good w0 D0 E' ∧ E'.w = E.w.setRow g (cur.toList.take (o + k * sz) ++ ns ++ cur.toList.drop (o + k * sz + ns.length)).toArray ∧ E'.objs = upd E.objs r (some (.row own sz (L.take k ++ M ++ L.drop (k + M.length)))) ∧ o + k * sz + ns.length ≤ cur.size := by
  have hlr : live (E.objs r) = true := live_row ho
  have hroot := hg.roots r _ ho
  simp only [RootRep, hl] at hroot
  obtain ⟨vs, ⟨cur0, ct0, hcur0, hcells⟩, hU, hrr⟩ := hroot
  rw [hcur] at hcur0
  simp only [Option.some.injEq, Obj.cells.injEq, and_true] at hcur0
  obtain ⟨rfl, rfl⟩ := hcur0
  have hn : ns.length = M.length * sz := by rw [← hM.length, hu.flat_length]
  have hvl : vs.length = L.length * sz := by rw [← hrr.length, hU.flat_length]
  have hks : k * sz + ns.length ≤ vs.length := by rw [hn, hvl, ← Nat.add_mul]; exact Nat.mul_le_mul_right _ hk
  have hbig : o + vs.length ≤ cur.size := by
    have hlast := hcells (vs.length - 1) (vs[vs.length - 1]'(by omega)) (List.getElem?_eq_getElem (by omega))
    have := (Array.getElem?_eq_some_iff.1 hlast).1
    omega
  have hnS := hg.ownS r hlr g o hl
  have hD : ∀ q, E.D q → q ≠ g := fun q hq e => (hg.ownIn r hlr g (.inr ⟨o, hl⟩)).2.2 (e ▸ hq)
  have hk' : UpOk E E.objs (E.w.setRow g (cur.toList.take (o + k * sz) ++ ns ++ cur.toList.drop (o + k * sz + ns.length)).toArray) E.D r g (E.S r) := by
    refine ⟨Dies.refl _, hlr, ⟨o, hl⟩, fun q hq => hq, fun q hq => .inl hq, fun q hq => .inr hq, fun q hq => .inl hq, fun q hq => setRow_other E.w g q _ hq, ?_, by simp [World.setRow], rfl, rfl, rfl⟩
    intro cur2 e2 h2
    rw [hcur] at h2
    simp only [Option.some.injEq, Obj.cells.injEq, and_true] at h2
    obtain ⟨rfl, rfl⟩ := h2
    exact ⟨_, _, setRow_heap E.w g cur _ ct _ hcur, by simp; omega⟩
  have hlen : (L.take k ++ M ++ L.drop (k + M.length)).length = L.length := by simp; omega
  refine ⟨E.upr E.objs _ _ r (.row own sz (L.take k ++ M ++ L.drop (k + M.length))) _, up_le hg hk' ho ⟨rfl, hlen⟩, up_good hg hk' ho ⟨rfl, hlen⟩ ?_, rfl, rfl, by omega⟩
  simp only [RootRep, Env.upr, hl, upd_same]
  refine ⟨vs.take (k * sz) ++ ns ++ vs.drop (k * sz + ns.length), ⟨_, ct, setRow_heap E.w g cur _ ct _ hcur, ?_⟩, (hU.take.append hu).append hU.drop, ?_⟩
  · intro j y hj
    simp only [List.getElem?_toArray]
    have hA : (cur.toList.take (o + k * sz)).length = o + k * sz := by simp; omega
    have hB : (vs.take (k * sz)).length = k * sz := by simp; omega
    rw [List.append_assoc, List.getElem?_append, hB] at hj
    rw [List.append_assoc, List.getElem?_append, hA]
    split at hj
    · rename_i hlt
      rw [if_pos (by omega), List.getElem?_take, if_pos (by omega)]
      rw [List.getElem?_take, if_pos hlt] at hj
      simpa using hcells j y hj
    · rename_i hge
      rw [if_neg (by omega)]
      rw [List.getElem?_append] at hj ⊢
      have e1 : o + j - (o + k * sz) = j - k * sz := by omega
      rw [e1]
      split at hj
      · rename_i hlt
        rw [if_pos hlt]; exact hj
      · rename_i hge2
        rw [if_neg hge2]
        rw [List.getElem?_drop] at hj ⊢
        have e2 : o + k * sz + ns.length + (j - k * sz - ns.length) = o + j := by omega
        have e3 : k * sz + ns.length + (j - k * sz - ns.length) = j := by omega
        rw [e2]
        rw [e3] at hj
        simpa using hcells j y hj
  · rw [List.flatMap_append, List.flatMap_append, mul_take_blk hU, mul_drop_blk hU, Nat.add_mul, ← hn]
    have hrr2 := hrr
    rw [← List.take_append_drop (k * sz) (L.flatMap V.cells)] at hrr2
    obtain ⟨x1, x2, S1, S2, hxx, q1, q2, qd, qs1, qs2⟩ := Reps.split hrr2
    have hx1 : x1.length = k * sz := by rw [← q1.length, List.length_take, hU.flat_length]; omega
    have e1 : x1 = vs.take (k * sz) := by rw [hxx, List.take_left' hx1]
    have q3 : Reps E.w E.D own ((L.flatMap V.cells).drop (k * sz + ns.length)) (vs.drop (k * sz + ns.length)) S2 := by
      have := q2.drop ns.length
      rw [List.drop_drop] at this
      have e2 : x2.drop ns.length = vs.drop (k * sz + ns.length) := by
        have e3 : k * sz + ns.length - k * sz = ns.length := by omega
        rw [hxx, List.drop_append, hx1, List.drop_eq_nil_of_le (as := x1) (by omega), e3, List.nil_append]
      rw [e2] at this
      exact this
    rw [e1] at q1
    have kD : ∀ q, E.D q → E.D q ∧ (E.w.setRow g (cur.toList.take (o + k * sz) ++ ns ++ cur.toList.drop (o + k * sz + ns.length)).toArray).heap[q]? = E.w.heap[q]? := fun q hq => ⟨hq, setRow_other E.w g q _ (hD q hq)⟩
    have a1 := q1.keep kD (fun _ q hq => setRow_other E.w g q _ (fun e => hnS (e ▸ qs1 q hq)))
    have a2 := hM.keep kD (fun _ q hq => hq.elim)
    have a3 := q3.keep kD (fun _ q hq => setRow_other E.w g q _ (fun e => hnS (e ▸ qs2 q hq)))
    exact Reps.append (S1 := S1) (S2 := S2) (Reps.append (S1 := S1) (S2 := Emp) a1 a2 (fun _ _ h => h) (fun _ h => h) (fun _ h => h.elim)) a3 qd qs1 qs2
/-- The room of a slice reaches to the end of the row. -/
theorem slice_room {r off len sz : Nat} {own : Bool} {L : List V} {x : Value} (hg : Good w0 D0 E) (h : AvRep E (.sl r off len) x) (ho : E.objs r = some (.row own sz L)) : ∃ ad c, x = .slice ad len c ∧ L.length ≤ off + c := by
  cases h with
  | sl hr h =>
    obtain ⟨hle, hat⟩ := h _ _ _ ho
    have hroot := hg.roots r _ ho
    unfold SlAt at hat
    split at hat
    · rename_i hl
      simp only [RootRep, hl] at hroot
      subst hroot
      obtain ⟨⟨ad, rfl⟩, rfl⟩ := hat
      exact ⟨ad, 0, rfl, by simp⟩
    · obtain ⟨ad, c, rfl, _, _, _, _, ht, _⟩ := hat
      exact ⟨ad, c, rfl, ht⟩
end
end Go.Ab
