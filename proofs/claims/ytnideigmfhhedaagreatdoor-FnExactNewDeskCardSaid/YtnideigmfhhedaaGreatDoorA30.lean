/- Walks along printed pure functions (own framework). -/
import Derived.Test.YtnideigmfhhedaaGreatDoorA27
import Derived.Laws.Externs
set_option linter.unusedVariables false
set_option linter.unusedSimpArgs false
namespace Go.Ab
open Go.RowKit

abbrev AI (n : Int) : AV := .val none (.int .i64 n)
abbrev AB (b : Bool) : AV := .val none (.bool b)
abbrev AS (s : List UInt8) : AV := .val none (.str s)
abbrev w64 (n : Int) : Int := IntKind.wrap .i64 n

/-- More rounds than any loop makes. -/
def lim : Nat := 1208925819614629174706176
def iter {S R : Type} (body : (S → Option R) → S → Option R) : Nat → S → Option R
  | 0, _ => none
  | n + 1, s => body (iter body n) s
def loop {S R : Type} (body : (S → Option R) → S → Option R) (s : S) : Option R := iter body lim s
def need {R : Type} (p : Prop) [Decidable p] (x : Option R) : Option R := if p then x else none
def ix {α : Type} (L : List α) (n : Int) : Option α := if 0 ≤ n then L[n.toNat]? else none
def sub {α : Type} (L : List α) (lo hi : Int) : List α := (L.take hi.toNat).drop lo.toNat
@[simp] def eL {α : Type} (sz : Nat) (e : α → V) (A : List α) : V := .sl sz (A.map e)
def room (n bytes : Nat) : Prop := n ≤ 9223372036854775807 ∧ n * bytes ≤ 140737488355328
instance (n bytes : Nat) : Decidable (room n bytes) := inferInstanceAs (Decidable (_ ∧ _))

theorem isn_e {m : Nat} {neg : Bool} (h : m = 0) : some (if m = 0 then AV.ub else .val none (.bool neg)) = some AV.ub := by rw [if_pos h]
def compFnM (P : Program) (f : Nat) : Option (MC × List RS) := match P.funcs[f]? with
  | some fn => match fn.body with
    | some c => match compC P ⟨fn.ntmps, true⟩ c, compR P fn.results.toList with
      | some m, some r => some (m, r)
      | _, _ => none
    | none => none
  | none => none
/-- The end of a body that changes its first argument. -/
def EndM (rs : List RS) (r' : R2) (rv : V) : Post0 := fun e s => (e = .normal ∨ e = .ret) ∧ GivesM rs r' rv s
theorem conM_of {P : Program} {f : Nat} {m : MC} {rs : List RS} {r r' : R2} {ro : List V} {rv : V} {av : AV} {L : List (Nat × Root)} (hc : compFnM P f = some (m, rs)) (hfit : r.wide 64 = true) (hcl : r'.clean = true) (hp : rv.plain = true) (hpl : pl2 0 (fo []) r = (av, fo L))
    (h : ∀ N, W P N m (mkS ((0, av) :: args0 1 ro) (fo L) 64) (EndM rs r' rv)) : ConM P f r r' ro rv := by
  unfold compFnM at hc
  split at hc
  · rename_i fn hf
    split at hc
    · rename_i c hb
      split at hc
      · rename_i m' rs' h1 h2
        simp only [Option.some.injEq, Prod.mk.injEq] at hc
        obtain ⟨rfl, rfl⟩ := hc
        have e0 : (fun _ => none : Objs) = fo [] := rfl
        refine conM_of_body hf hb h1 h2 hfit hcl hp (mw_weak (s := startM r ro) (s' := mkS ((0, av) :: args0 1 ro) (fo L) 64) (Q := EndM rs' r' rv) ?_ ?_ (Nat.le_refl _) (h _).run)
        · intro t
          simp only [mkS, startM, e0, hpl]
          cases t with
          | zero => left; simp [fr]
          | succ t =>
            simp only [fr, Nat.succ_ne_zero, if_false, args0_at, show 1 ≤ t + 1 by omega, if_true, Nat.add_sub_cancel]
            cases ro[t]? <;> simp
        · simp only [mkS, startM, e0, hpl]
      · cases hc
    · cases hc
  · cases hc
theorem endM_r {rs : List RS} {r' : R2} {rv : V} {s : St} {cv : AV} {l : List Nat} (h1 : resAV s rs = some [cv]) (h2 : snap false s 8 cv = some rv) (h3 : take2 s (s.tmps 0) = some (r', l)) (h4 : l.Nodup) (hv : rv ≠ .agg [] := by exact fun h => by cases h) : EndM rs r' rv .ret s := ⟨.inr rfl, [cv], l, h1, .inl ⟨cv, rfl, h2, hv⟩, h3, h4⟩
section
variable {α R : Type}
theorem need_some {p : Prop} [Decidable p] {x : Option R} {r : R} (h : need p x = some r) : p ∧ x = some r := by
  unfold need at h
  split at h
  · exact ⟨by assumption, h⟩
  · cases h
theorem need_true {p : Prop} [Decidable p] {x : Option R} (h : p) : need p x = x := if_pos h
theorem ix_some {L : List α} {n : Int} {v : α} (h : ix L n = some v) : 0 ≤ n ∧ L[n.toNat]? = some v := by
  unfold ix at h
  split at h
  · exact ⟨by assumption, h⟩
  · cases h
theorem ix_lt {L : List α} {n : Int} {v : α} (h : ix L n = some v) : n.toNat < L.length := (List.getElem?_eq_some_iff.1 (ix_some h).2).1
theorem ix_nat {L : List α} {n : Nat} : ix L (n : Int) = L[n]? := by simp [ix]
theorem bind_get {β : Type} {x : Option α} {f : α → Option β} {r : β} (h : x.bind f = some r) : ∃ a, x = some a ∧ f a = some r := Option.bind_eq_some_iff.1 h
end

section
variable {P : Program} {N : Fr} {s s1 : St} {Q : Post0} {K : St → Prop} {ρ : Type} {r : ρ}

theorem w_loopF {S : Type} {x : MC} (body : (S → Option ρ) → S → Option ρ) (st : S → St) {s0 : S} (h0 : loop body s0 = some r)
    (round : ∀ (k : S → Option ρ) (s : S), body k s = some r → W P N x (st s) (thenQ (fun s' => Aw N s' (fun s2 => ∃ t, s2 = st t ∧ k t = some r)) Q)) : W P N (.loop x) (st s0) Q := by
  refine w_loop (ι := {p : Nat × S // iter body p.1 p.2 = some r}) (fun p => st p.1.2) (fun p => p.1.1) ⟨(lim, s0), h0⟩ rfl ?_
  rintro ⟨⟨n, s⟩, h⟩
  cases n with
  | zero => cases h
  | succ n =>
    refine w_mono (round (iter body n) s h) ?_
    intro e s' h'
    cases e <;> first
      | exact h'
      | (intro w0 D0 a w hs
         obtain ⟨s2, ⟨t, h1, h2⟩, h3⟩ := h' w0 D0 a w hs
         exact ⟨s2, ⟨⟨(n, t), h2⟩, h1, Nat.lt_succ_self n⟩, h3⟩)

theorem w_condF {x : X} {y z : MC} {b : Bool} {A B : Option ρ} (hF : (bif b then A else B) = some r) (hb : s.get x = .val none (.bool b)) (h1 : A = some r → W P N y s Q) (h2 : B = some r → W P N z s Q) : W P N (.cond x y z) s Q := by
  cases b
  · exact w_false hb (h2 hF)
  · exact w_true hb (h1 hF)

section
variable {b n i nn id : Nat} {l : List (Nat × AV)} {o ob : Objs} {L : List (Nat × Root)} {g : Option (Nat × Bool)} {ll : List (Nat × MI)}

theorem fr_same {l : List (Nat × AV)} {t : Nat} {v : AV} (h : fr l t = v) : fr ((t, v) :: l) = fr l := by
  funext q
  by_cases e : q = t
  · subst e; simp [fr, h]
  · simp [fr, e]
theorem q_case {bv : Bool} {A B : Option ρ} (t : Nat) (hF : (bif bv then A else B) = some r) (hb : fr l t = .val none (.bool bv)) (h1 : A = some r → R P b ll nn (mkS ((t, AB true) :: l) o n) K) (h2 : B = some r → R P b ll nn (mkS ((t, AB false) :: l) o n) K) : R P b ll nn (mkS l o n) K := by
  cases bv
  · have h := h2 hF
    have e : mkS ((t, AB false) :: l) o n = mkS l o n := by unfold mkS; rw [fr_same hb]
    rw [e] at h; exact h
  · have h := h1 hF
    have e : mkS ((t, AB true) :: l) o n = mkS l o n := by unfold mkS; rw [fr_same hb]
    rw [e] at h; exact h
theorem qp {k : Bool} {d : Nat} {m : MO} (av : AV) (he : ev (mkS l o n) m = some av) (h : R P b ll nn (mkS ((d, av) :: l) o n) K) :
    R P b ((i, ⟨some d, none, .p k m⟩) :: ll) nn (mkS l o n) K := r_p he h
theorem qg {k : Bool} {d t : Nat} {c : Bool} {m : MO} (av : AV) (hg : fr l t = .val none (.bool c)) (he : ev (mkS l o n) m = some av) (h : R P b ll nn (mkS ((d, av) :: l) o n) K) :
    R P b ((i, ⟨some d, some (t, c), .p k m⟩) :: ll) nn (mkS l o n) K := r_pg hg he h
theorem qn {d t : Nat} {c : Bool} {m : AO} (hg : fr l t = .val none (.bool (!c))) (h : R P b ll nn (mkS ((d, .undef) :: l) o n) K) :
    R P b ((i, ⟨some d, some (t, c), m⟩) :: ll) nn (mkS l o n) K := r_no hg h
theorem qu {d t : Nat} {c : Bool} {m : AO} (hg : fr l t = .undef) (h : R P b ll nn (mkS ((d, .undef) :: l) o n) K) :
    R P b ((i, ⟨some d, some (t, c), m⟩) :: ll) nn (mkS l o n) K := r_un hg h
theorem qf {d : Nat} {m : FO} (av : AV) (L' : List (Nat × Root)) (he : eff (mkS l (fo L) n) (b + 64 * i) m = some (av, fo L')) (h : R P b ll nn (mkS ((d, av) :: l) (fo L') n) K) :
    R P b ((i, ⟨some d, none, .f m⟩) :: ll) nn (mkS l (fo L) n) K := r_f he h
theorem qf0 {m : FO} (av : AV) (L' : List (Nat × Root)) (he : eff (mkS l (fo L) n) (b + 64 * i) m = some (av, fo L')) (h : R P b ll nn (mkS l (fo L') n) K) :
    R P b ((i, ⟨none, none, .f m⟩) :: ll) nn (mkS l (fo L) n) K := r_f0 he h
theorem qc {k : Bool} {d f : Nat} {xs : List X} {Vs : List V} {res : RV} (av : AV) (L' : List (Nat × Root)) (ln : Bool) (hc : Con P f Vs res) (hok : okFn P f = true) (ht : trav (snap ln (mkS l (fo L) n) 8) (xs.map (mkS l (fo L) n).get) = some Vs) (hp : plV (b + 64 * i) (fo L) res = (av, fo L'))
    (h : R P b ll nn (mkS ((d, av) :: l) (fo L') n) K) (hfit : res.fits = true := by rfl) (hcl : ln = true → res.clean = true := by first | (intro h; cases h; done) | (intro _; rfl)) :
    R P b ((i, ⟨some d, none, .call k f xs⟩) :: ll) nn (mkS l (fo L) n) K := r_c ln hc hok ht hp h hfit hcl
theorem qcg {k : Bool} {d f t : Nat} {c : Bool} {xs : List X} {Vs : List V} {res : RV} (av : AV) (L' : List (Nat × Root)) (ln : Bool) (hg : fr l t = .val none (.bool c)) (hc : Con P f Vs res) (hok : okFn P f = true) (ht : trav (snap ln (mkS l (fo L) n) 8) (xs.map (mkS l (fo L) n).get) = some Vs) (hp : plV (b + 64 * i) (fo L) res = (av, fo L'))
    (h : R P b ll nn (mkS ((d, av) :: l) (fo L') n) K) (hfit : res.fits = true := by rfl) (hcl : ln = true → res.clean = true := by first | (intro h; cases h; done) | (intro _; rfl)) :
    R P b ((i, ⟨some d, some (t, c), .call k f xs⟩) :: ll) nn (mkS l (fo L) n) K := r_cg ln hg hc hok ht hp h hfit hcl
def dropL (l : List (Nat × AV)) : List Nat → List (Nat × AV)
  | [] => []
  | k :: ks => (k, fr l k) :: dropL l ks
theorem scrO_fo {ls : List Nat} {L : List (Nat × Root)} : scrO ls (fo L) = fo (L.map fun p => (p.1, scrR ls p.2)) := by
  funext q
  induction L with
  | nil => rfl
  | cons p L ih =>
    obtain ⟨k, r⟩ := p
    simp only [scrO, fo, List.map_cons] at ih ⊢
    by_cases e : q = k
    · simp [e]
    · simp only [e, if_false]; exact ih
theorem map_get {α : Type} {e : α → V} {A : List α} {j : Nat} {a : α} (h : A[j]? = some a) : (A.map e)[j]? = some (e a) := by rw [List.getElem?_map, h]; rfl
/-- A call that changes its first argument. -/
def scrL (l : List Nat) : List (Nat × AV) → List (Nat × AV)
  | [] => []
  | (t, c) :: fs => (t, scrA l c) :: scrL l fs
attribute [simp] scrL scrA scrAs scrR
theorem scrL_fr (ls : List Nat) : ∀ (l : List (Nat × AV)) (t : Nat), fr (scrL ls l) t = scrA ls (fr l t)
  | [], t => by simp [scrL, fr, scrA]
  | (k, c) :: l, t => by
    simp only [scrL, fr]
    by_cases e : t = k
    · simp [e]
    · simp only [e, if_false]; exact scrL_fr ls l t
theorem scrS_mk {ls : List Nat} {l : List (Nat × AV)} {o : Objs} {n : Nat} : scrS ls (mkS l o n) = mkS (scrL ls l) o n := by
  unfold scrS mkS
  congr 1
  funext t
  exact (scrL_fr ls l t).symm
theorem qm {d f : Nat} {x : X} {xs : List X} {ro : List V} {rv : V} {r r' : R2} {ls : List Nat} {l' : List (Nat × AV)} (L' : List (Nat × Root)) (hc : ConM P f r r' ro rv) (hok : okFn P f = true) (ht : takeM (mkS l (fo L) n) ((mkS l (fo L) n).get x) = some (r, ls)) (hn : ls.Nodup) (hlk : like2 r r') (hp : rv.plain = true)
    (ha : trav (snap false (mkS l (fo L) n) 8) (xs.map (mkS l (fo L) n).get) = some ro) (hl : scrL ls l = l') (ho : newO2 (scrO ls (fo L)) ((mkS l (fo L) n).get x) r' = fo L') (h : R P b ll nn (mkS ((d, .val none rv) :: l') (fo L') n) K) (hv : yav rv = .val none rv := by rfl) :
    R P b ((i, ⟨some d, none, .call true f (x :: xs)⟩) :: ll) nn (mkS l (fo L) n) K := by
  subst hl
  refine r_step (s1 := mkS ((d, .val none rv) :: scrL ls l) (fo L') n) (.inr (.inr ⟨rfl, hok, .inl ⟨ro, rv, ha, hp, .inl ⟨r, ls, r', ht, hn, hlk, hc, ?_⟩⟩⟩)) h
  rw [mk_objs, ho, scrS_mk, hv, put_mkS]
/-- .. handed a slice that lies in an element of an own row: load, a move, call. -/
theorem qm_l {d d1 d2 f i1 i2 : Nat} {x y : X} {xs : List X} {ro : List V} {rv : V} {r j f0 m sz z : Nat} {A : List V} {e0 : V} {T T' : List V} {v1 : AV} {l' : List (Nat × AV)} (L' : List (Nat × Root)) (hx : (mkS l (fo L) n).get x = .ptr r j f0) (hr : fo L r = some (.row true sz A)) (hi : A[j]? = some e0) (hf : e0.cells[f0]? = some (.sl z T))
    (hy : ev (mkS ((d1, .bad) :: l) (fo L) n) (.mv y) = some v1) (hne : (d1 == d2) = false) (hc : ConM P f (.one (.row true z T)) (.one (.row true z T')) ro rv) (hok : okFn P f = true) (hlen : T'.length = T.length) (hp : rv.plain = true)
    (ha : trav (snap false (mkS ((d2, v1) :: (d1, .bad) :: l) (fo L) n) 8) (xs.map (mkS ((d2, v1) :: (d1, .bad) :: l) (fo L) n).get) = some ro) (hl : scrL [r] ((d2, v1) :: (d1, .bad) :: l) = l') (ho : upd (scrO [r] (fo L)) r (some (.row true sz (A.set j (patch e0 f0 [.sl z T'])))) = fo L')
    (h : R P b ll nn (mkS ((d, .val none rv) :: l') (fo L') n) K) (hv : yav rv = .val none rv := by rfl) :
    R P b ((i1, ⟨some d1, none, .p true (.ld x m false)⟩) :: (i2, ⟨some d2, none, .p true (.mv y)⟩) :: (i, ⟨some d, none, .call true f (.t d1 :: xs)⟩) :: ll) nn (mkS l (fo L) n) K := by
  subst hl
  have hne' : ¬ d1 = d2 := by simpa using hne
  refine r_step (s1 := { put (mkS l (fo L) n) (some d1) .bad (fo L) with lk := some (d1, r, j, f0) }) (.inr (.inr ⟨rfl, d1, rfl, .inr ⟨x, m, r, j, f0, sz, A, e0, z, T, rfl, hx, hr, hi, hf, rfl⟩⟩)) ?_
  refine r_step (s1 := putk { put (mkS l (fo L) n) (some d1) .bad (fo L) with lk := some (d1, r, j, f0) } d2 v1) (.inr (.inr ⟨rfl, d2, rfl, .inl ⟨v1, ?_, rfl⟩⟩)) ?_
  · have e : ({ put (mkS l (fo L) n) (some d1) .bad (fo L) with lk := some (d1, r, j, f0) } : St).get y = (mkS ((d1, .bad) :: l) (fo L) n).get y := by
      cases y with
      | t t =>
        show upd (fr l) d1 .bad t = fr ((d1, .bad) :: l) t
        simp only [fr, upd]
      | c v => rfl
      | f g => rfl
    simp only [ev] at hy ⊢
    rw [e]; exact hy
  have es : (putk { put (mkS l (fo L) n) (some d1) .bad (fo L) with lk := some (d1, r, j, f0) } d2 v1) = { mkS ((d2, v1) :: (d1, .bad) :: l) (fo L) n with lk := some (d1, r, j, f0) } := by
    unfold putk put mkS
    simp only [hne', if_false]
    congr 1
  rw [es]
  refine r_step (s1 := mkS ((d, .val none rv) :: scrL [r] ((d2, v1) :: (d1, .bad) :: l)) (fo L') n) (.inr (.inr ⟨rfl, hok, .inl ⟨ro, rv, ?_, hp, .inr ⟨d1, r, j, f0, sz, A, e0, z, T, T', rfl, rfl, hr, hi, hf, hc, hlen, ?_⟩⟩⟩)) h
  · exact ha
  · have e2 : scrS [r] ({ mkS ((d2, v1) :: (d1, .bad) :: l) (fo L) n with lk := some (d1, r, j, f0) } : St) = { mkS (scrL [r] ((d2, v1) :: (d1, .bad) :: l)) (fo L) n with lk := some (d1, r, j, f0) } := by
      rw [← scrS_mk]; rfl
    rw [e2, hv]
    show _ = put _ _ _ (upd (scrO [r] (fo L)) r _)
    rw [ho]
    unfold put mkS
    congr 1
theorem w_drop {m : MC} {l l' : List (Nat × AV)} {o : Objs} {n : Nat} (ks : List Nat) (hl : dropL l ks = l') (h : W P N m (mkS l' o n) Q) : W P N m (mkS l o n) Q := by
  subst hl
  refine ⟨mw_weak (s' := mkS (dropL l ks) o n) ?_ rfl (Nat.le_refl _) h.run⟩
  clear h
  intro t
  show fr (dropL l ks) t = fr l t ∨ fr (dropL l ks) t = .bad
  induction ks with
  | nil => exact .inr rfl
  | cons k ks ih =>
    simp only [dropL, fr]
    by_cases e : t = k
    · subst e; simp
    · simp only [e, if_false]; exact ih
end

section
variable {s : St} {α : Type} {e : α → V} {A : List α} {n : Int} {k : IntKind} {v : α} {x i : X} {sz : Nat}
theorem ev_iad_n (hx : s.get x = .val none (.sl sz (A.map e))) (hi : s.get i = .val none (.int k n)) (h : ix A n = some v) {cs : List V} (hc : (e v).cells = cs) : ev s (.iad x i sz) = some (.val none (.ptr cs)) := by
  obtain ⟨h0, h1⟩ := ix_some h
  simp [ev, hx, hi, h0, h1, hc]
theorem ev_iad_s {r : Nat} (hx : s.get x = .val (some r) (.sl sz (A.map e))) (hr : live (s.objs r) = true) (hi : s.get i = .val none (.int k n)) (h : ix A n = some v) {cs : List V} (hc : (e v).cells = cs) : ev s (.iad x i sz) = some (.val (some r) (.ptr cs)) := by
  obtain ⟨h0, h1⟩ := ix_some h
  have e1 : (A.map e)[n.toNat]? = some (e v) := by rw [List.getElem?_map, h1]; rfl
  simp only [ev, hx, hi, h0, e1, hc, St.view, hr, asI, if_true]
theorem ev_iad_r {r m : Nat} {own : Bool} (hx : s.get x = .sl r 0 m) (hm : m = A.length) (hr : s.objs r = some (.row own sz (A.map e))) (hi : s.get i = .val none (.int k n)) (h : ix A n = some v) : ev s (.iad x i sz) = some (.ptr r n.toNat 0) := by
  obtain ⟨h0, h1⟩ := ix_some h
  subst hm
  have := ix_lt h
  simp [ev, hx, hi, h0, h1, hr, this]
theorem ev_ld_r {r j f m : Nat} {ag own : Bool} {u : V} {av : AV} (hx : s.get x = .ptr r j f) (hr : s.objs r = some (.row own sz (A.map e))) (h : A[j]? = some v) (hu : ldV (e v).cells f m ag = some u) (hm : mk (some r) u = av) : ev s (.ld x m ag) = some av := by
  simp only [ev, hx, hr, List.getElem?_map, h, Option.map_some, hu, hm]
def bytesI (L : List Int) : List UInt8 := L.map fun n => UInt8.ofNat n.toNat
theorem bytesOf_ints : ∀ L : List Int, bytesOf (L.map (V.int .u8)) = some (bytesI L)
  | [] => rfl
  | x :: L => by simp only [List.map_cons, bytesOf, bytesOf_ints L]; rfl
theorem ev_bts_r {L : List Int} {r m : Nat} {own : Bool} (hx : s.get x = .sl r 0 m) (hm : m = L.length) (hr : s.objs r = some (.row own 1 (L.map (V.int .u8)))) : ev s (.bts x) = some (AS (bytesI L)) := by
  subst hm
  have e1 : ((L.map (V.int .u8)).drop 0).take L.length = L.map (V.int .u8) := by rw [List.drop_zero, List.take_of_length_le (by simp)]
  simp only [ev, hx, hr, e1, if_true, bytesOf_ints]
theorem ev_len_n (hx : s.get x = .val none (.sl sz (A.map e))) : ev s (.len x) = some (AI A.length) := by
  simp only [ev, hx, St.view, List.length_map]
theorem ev_ixs {b : List UInt8} {c : UInt8} (hx : s.get x = .val none (.str b)) (hi : s.get i = .val none (.int k n)) (h : ix b n = some c) : ev s (.ixs x i) = some (.val none (.int .u8 c.toNat)) := by
  obtain ⟨h0, h1⟩ := ix_some h
  simp [ev, hx, hi, h0, h1, St.view, asI]
theorem ev_add_s {a b : List UInt8} {y : X} (hx : s.get x = .val none (.str a)) (hy : s.get y = .val none (.str b)) (h : a.length + b.length < 9223372036854775808) : ev s (.bin .add x y) = some (.val none (.str (a ++ b))) := by
  simp [ev, hx, hy, St.view, binV, binS, h]
theorem ev_quo {a b : Int} {y : X} (hx : s.get x = .val none (.int k a)) (hy : s.get y = .val none (.int k b)) (h : b ≠ 0) : ev s (.bin .quo x y) = some (.val none (.int k (k.wrap (a.tdiv b)))) := by
  simp [ev, hx, hy, St.view, binV, binI, h]
theorem ev_rem {a b : Int} {y : X} (hx : s.get x = .val none (.int k a)) (hy : s.get y = .val none (.int k b)) (h : b ≠ 0) : ev s (.bin .rem x y) = some (.val none (.int k (a.tmod b))) := by
  simp [ev, hx, hy, St.view, binV, binI, h]
theorem bnd_some {d : Nat} (hx : s.get x = .val none (.int k n)) (h : 0 ≤ n) : bnd s d (some x) = some n.toNat := by
  simp [bnd, hx, St.view, asI, h]
theorem ev_slcs {b : List UInt8} {lo hi : Int} {xl xh : Option X} (hx : s.get x = .val none (.str b)) (hl : bnd s 0 xl = some lo.toNat) (hh : bnd s b.length xh = some hi.toNat) (h : 0 ≤ lo ∧ lo ≤ hi ∧ hi ≤ b.length) : ev s (.slcs x xl xh) = some (.val none (.str (sub b lo hi))) := by
  have h1 : lo.toNat ≤ hi.toNat := by omega
  have h2 : hi.toNat ≤ b.length := by omega
  simp only [ev, hx, St.view, hl, hh, h1, h2, and_self, if_true, sub]
end

section
variable {b n i nn id : Nat} {l : List (Nat × AV)} {L : List (Nat × Root)} {ll : List (Nat × MI)} {α : Type} {e : α → V} {A B : List α} {d : Nat}
theorem app_core {r sz bytes : Nat} {own fl mv : Bool} {o o2 : Objs} {y : AV} (hs : srcOf r o sz mv y = some (B.map e, fl, o2)) (h : room (A.length + B.length) bytes) :
    appTo id r 0 A.length own (A.map e) o y sz bytes mv = some (.sl id 0 (A ++ B).length, upd (upd o2 r (some .dead)) id (some (.row (own && fl) sz ((A ++ B).map e)))) := by
  have h1 := h.1
  have h2 := h.2
  simp only [appTo, hs, List.length_map, h1, h2, and_self, if_true, List.drop_zero, List.map_append, List.length_append]
  rw [List.take_of_length_le (by simp)]
theorem src_l {r r2 sz m : Nat} {own2 : Bool} {o : Objs} (hm : m = B.length) (hr2 : o r2 = some (.row own2 sz (B.map e))) (hne : r2 ≠ r) : srcOf r o sz true (.sl r2 0 m) = some (B.map e, own2, upd o r2 (some .dead)) := by
  subst hm
  simp [srcOf, hr2, hne, List.take_of_length_le]
theorem part_map {C : List α} {lo hi : Int} : ((C.map e).drop lo.toNat).take (hi.toNat - lo.toNat) = (sub C lo hi).map e := by
  unfold sub
  rw [← List.drop_take, ← List.map_take, ← List.map_drop]
theorem src_r {r sz : Nat} {mv : Bool} {o : Objs} : srcOf r o sz mv (.val none (.sl sz (B.map e))) = some (B.map e, (B.map e).all V.plain, o) := by
  simp only [srcOf, ne_eq, not_true_eq_false, if_false]
section
variable {x : Nat} {y : X} {r r2 sz bytes m m2 q : Nat} {own own2 mv : Bool}
theorem effT_app (hx : fr l x = .sl r 0 m) (hm : m = A.length) (hr : fo L r = some (.row own sz (A.map e))) {fl : Bool} {L2 : List (Nat × Root)} {w : AV} (hy : (mkS l (fo L) n).get y = w) (hs : srcOf r (fo L) sz mv w = some (B.map e, fl, fo L2)) (h : room (A.length + B.length) bytes) :
    eff (mkS l (fo L) n) id (.app (.t x) y sz bytes mv) = some (.sl id 0 (A ++ B).length, fo ((id, .row (own && fl) sz ((A ++ B).map e)) :: (r, .dead) :: L2)) := by
  subst hm
  have := app_core (id := id) (own := own) (bytes := bytes) hs h
  simp only [eff, mk_get, hx, mk_objs, hr, hy, this, upd_fo, if_true]
theorem effT_app_l (hx : fr l x = .sl r 0 m) (hm : m = A.length) (hr : fo L r = some (.row own sz (A.map e))) (hy : (mkS l (fo L) n).get y = .sl r2 0 m2) (hm2 : m2 = B.length) (hr2 : fo L r2 = some (.row own2 sz (B.map e))) (hne : r2 ≠ r) (h : room (A.length + B.length) bytes) {ow : Bool} (how : (own && own2) = ow) :
    eff (mkS l (fo L) n) id (.app (.t x) y sz bytes true) = some (.sl id 0 (A ++ B).length, fo ((id, .row ow sz ((A ++ B).map e)) :: (r, .dead) :: (r2, .dead) :: L)) := by
  subst how; exact effT_app hx hm hr hy (by rw [← upd_fo]; exact src_l hm2 hr2 hne) h
theorem effT_app_r (hx : fr l x = .sl r 0 m) (hm : m = A.length) (hr : fo L r = some (.row own sz (A.map e))) (hy : (mkS l (fo L) n).get y = .val none (.sl sz (B.map e))) (h : room (A.length + B.length) bytes) :
    eff (mkS l (fo L) n) id (.app (.t x) y sz bytes mv) = some (.sl id 0 (A ++ B).length, fo ((id, .row (own && (B.map e).all V.plain) sz ((A ++ B).map e)) :: (r, .dead) :: L)) :=
  effT_app (mv := mv) (id := id) hx hm hr hy src_r h
theorem effT_app_r0 (hx : fr l x = .sl r 0 m) (hm : m = 0) (hr : fo L r = some (.row own sz (([] : List α).map e))) (hy : (mkS l (fo L) n).get y = .val none (.sl sz (B.map e))) (h : room B.length bytes) :
    eff (mkS l (fo L) n) id (.app (.t x) y sz bytes mv) = some (.sl id 0 B.length, fo ((id, .row (own && (B.map e).all V.plain) sz (B.map e)) :: (r, .dead) :: L)) :=
  effT_app_r (A := []) hx hm hr hy (by simpa using h)
theorem trav_pp {s : St} {r2 sz : Nat} {own2 : Bool} {C : List α} {lo hi : Int} (hr2 : s.objs r2 = some (.row own2 sz (C.map e))) : trav (snap true s 8) [.sl r2 lo.toNat (hi.toNat - lo.toNat)] = some [.sl sz ((sub C lo hi).map e)] := by
  simp only [trav, snap, hr2, if_true, part_map]
theorem effT_st {xp : X} {v : X} {i f k : Nat} {a a' : α} {u : V} {fl : Bool} {L2 : List (Nat × Root)} (hx : (mkS l (fo L) n).get xp = .ptr r i f) (hr : fo L r = some (.row own sz (A.map e))) (ha : A[i]? = some a) (hv : elem (fo L) ((mkS l (fo L) n).get v) = some (u, fl, fo L2)) (hl : live (fo L2 r) = true) (hn : u.cells.length = k) (hp : patch (e a) f u.cells = e a') (hf : Nat.ble (f + k) sz = true) {ow : Bool} (how : (own && fl) = ow) :
    eff (mkS l (fo L) n) id (.st xp v k) = some (.undef, fo ((r, .row ow sz ((A.set i a').map e)) :: L2)) := by
  subst how
  have e1 : (A.map e)[i]? = some (e a) := by rw [List.getElem?_map, ha]; rfl
  have hf := Nat.le_of_ble_eq_true hf
  simp only [eff, hx, mk_objs, hr, e1, hv, hl, hn, hf, and_self, if_true, hp, List.map_set, upd_fo]
end
end
end

/-- The model's own search for a byte. -/
def byteIdx (s : List UInt8) (c : UInt8) : Int := match s.findIdx? (· == c) with
  | some i => (i : Int)
  | none => -1
theorem range_find (s : List UInt8) (c : UInt8) : ((List.range s.length).find? fun i => s[i]! == c) = s.findIdx? (· == c) := by
  induction s with
  | nil => rfl
  | cons a t ih =>
    rw [List.length_cons, List.range_succ_eq_map, List.find?_cons, List.findIdx?_cons]
    by_cases h : a = c
    · subst h; simp
    · have h2 : (a == c) = false := by simpa using h
      simp only [List.getElem!_cons_zero, h2, List.find?_map]
      have e : ((fun i => (a :: t)[i]! == c) ∘ Nat.succ) = fun i => t[i]! == c := by
        funext i; simp
      rw [e, ih]
      cases t.findIdx? (· == c) <;> simp
theorem firstIdx_eq (s : List UInt8) (c : UInt8) : firstIdx ⟨s.toArray⟩ c = byteIdx s c := by
  unfold firstIdx byteIdx
  have e : (fun i : Nat => (⟨s.toArray⟩ : ByteArray)[i]! == c) = fun i : Nat => s[i]! == c := by
    funext i
    by_cases h : i < s.length
    · have h2 : i < (⟨s.toArray⟩ : ByteArray).size := by simpa [ByteArray.size] using h
      rw [getElem!_pos _ i h2, getElem!_pos s i h]
      rfl
    · have h2 : ¬ i < (⟨s.toArray⟩ : ByteArray).size := by simpa [ByteArray.size] using h
      rw [getElem!_neg _ i h2, getElem!_neg s i h]
  rw [e]
  have : (⟨s.toArray⟩ : ByteArray).size = s.length := by simp [ByteArray.size]
  rw [this, range_find]
  generalize s.findIdx? (· == c) = o
  cases o <;> rfl
/-- A function that the model stands in for by its search for a byte. -/
structure IsIdx (P : Program) (f : FuncId) : Prop where
  h1 : P.funcs[f]?.map (fun fn => fn.name == "runtime.NumGoroutine") = some false
  h2 : P.funcs[f]?.map (fun fn => fn.body.isNone) = some true
  h3 : P.funcs[f]?.map Extern.findNext = some none
  h4 : P.funcs[f]?.map Extern.find = some (some Extern.BytealgIndexByte.indexByte)
theorem ext_idx {P : Program} {f : FuncId} (h : IsIdx P f) (s : List UInt8) (c : Int) : ExtC P f [.str s, .int .u8 c] (.one (.one (.val (.int .i64 (byteIdx s c.toNat.toUInt8))))) := by
  obtain ⟨h1, h2, h3, h4⟩ := h
  cases hf : P.funcs[f]? with
  | none => rw [hf] at h1; cases h1
  | some fn =>
    rw [hf] at h1 h2 h3 h4
    simp only [Option.map_some, Option.some.injEq] at h1 h2 h3 h4
    refine ⟨.i64, _, rfl, fun w D vs hv => ?_⟩
    cases hv with
    | cons a1 a2 => cases a2 with
      | cons a2 a3 =>
        cases a3; cases a1; cases a2
        rw [run_callFunc_extern hf h1 h2 h3 h4]
        have := run_indexByte_string (P := P) ⟨s.toArray⟩ c w
        rw [firstIdx_eq] at this
        rw [show ([Value.string ⟨s.toArray⟩, Value.int .u8 c].toArray) = #[.string ⟨s.toArray⟩, .int .u8 c] from rfl, this]
        rfl
section
variable {P : Program} {b i : Nat} {ll : List (Nat × MI)} {nn : Nat} {l : List (Nat × AV)} {n : Nat} {K : St → Prop} {L : List (Nat × Root)}
theorem qx {k : Bool} {d f : Nat} {xs : List X} {s : List UInt8} {c : Int} (h : IsIdx P f) (ht : trav (snap false (mkS l (fo L) n) 8) (xs.map (mkS l (fo L) n).get) = some [.str s, .int .u8 c])
    (hk : R P b ll nn (mkS ((d, AI (byteIdx s c.toNat.toUInt8)) :: l) (fo L) n) K) :
    R P b ((i, ⟨some d, none, .call k f xs⟩) :: ll) nn (mkS l (fo L) n) K := r_cx (ext_idx h s c) ht hk
end
end Go.Ab
