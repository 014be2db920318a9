/- Walks along printed pure functions (own framework). -/
import Derived.Test.YtpnmhfbiaajaeaaGreatDoorA27
import Derived.Laws.Externs
set_option linter.unusedVariables false
set_option linter.unusedSimpArgs false
namespace Go.Ab
open Go.RowKit

abbrev AI (n : Int) : AV := .val none (.int .i64 n)
abbrev AB (b : Bool) : AV := .val none (.bool b)
abbrev AS (s : List UInt8) : AV := .val none (.str s)
abbrev w64 (n : Int) : Int := IntKind.wrap .i64 n

/-- More rounds than any loop makes. -/
def lim : Nat := 1208925819614629174706176
def iter {S R : Type} (body : (S → Option R) → S → Option R) : Nat → S → Option R
  | 0, _ => none
  | n + 1, s => body (iter body n) s
def loop {S R : Type} (body : (S → Option R) → S → Option R) (s : S) : Option R := iter body lim s
def need {R : Type} (p : Prop) [Decidable p] (x : Option R) : Option R := if p then x else none
def ix {α : Type} (L : List α) (n : Int) : Option α := if 0 ≤ n then L[n.toNat]? else none
def sub {α : Type} (L : List α) (lo hi : Int) : List α := (L.take hi.toNat).drop lo.toNat
@[simp] def eL {α : Type} (sz : Nat) (e : α → V) (A : List α) : V := .sl sz (A.map e)
def bitAnd (k : IntKind) (a b : Int) : Int := k.wrap ((BitVec.ofInt k.bits a &&& BitVec.ofInt k.bits b).toNat)
def room (n bytes : Nat) : Prop := n ≤ 9223372036854775807 ∧ n * bytes ≤ 140737488355328
instance (n bytes : Nat) : Decidable (room n bytes) := inferInstanceAs (Decidable (_ ∧ _))

def compFnM (P : Program) (f : Nat) : Option (MC × List RS) := match P.funcs[f]? with
  | some fn => match fn.body with
    | some c => match compC P ⟨fn.ntmps, true⟩ c, compR P fn.results.toList with
      | some m, some r => some (m, r)
      | _, _ => none
    | none => none
  | none => none
/-- The contract of a function that changes the variable behind its first argument. -/
def EndP (rs : List RS) (cs' : List V) (res : RV) : Post0 := fun e s => (e = .normal ∨ e = .ret) ∧ GivesP rs cs' res s
theorem conP_of {P : Program} {f : Nat} {m : MC} {rs : List RS} {cs cs' ro : List V} {res : RV} {L : List (Nat × Root)} (hc : compFnM P f = some (m, rs)) (hL : [(0, .box (cs.map (AV.val none)))] = L)
    (h : ∀ N, W P N m (mkS ((0, .ptr 0 0 0) :: args0 1 ro) (fo L) 64) (EndP rs cs' res)) : ConP P f cs cs' ro res := by
  subst hL
  unfold compFnM at hc
  split at hc
  · rename_i fn hf
    split at hc
    · rename_i c hb
      split at hc
      · rename_i m' rs' h1 h2
        simp only [Option.some.injEq, Prod.mk.injEq] at hc
        obtain ⟨rfl, rfl⟩ := hc
        refine conP_of_body hf hb h1 h2 (mw_weak (s := startP cs ro) (s' := mkS ((0, .ptr 0 0 0) :: args0 1 ro) (fo [(0, .box (cs.map (AV.val none)))]) 64) (Q := EndP rs' cs' res) ?_ ?_ (Nat.le_refl _) (h _).run)
        · intro t
          simp only [mkS, startP]
          cases t with
          | zero => left; simp [fr]
          | succ t =>
            simp only [fr, Nat.succ_ne_zero, if_false, args0_at, show 1 ≤ t + 1 by omega, if_true, Nat.add_sub_cancel]
            cases ro[t]? <;> simp
        · simp only [mkS, startP]
          rw [← upd_fo]
          rfl
      · cases hc
    · cases hc
  · cases hc
theorem endP_r {rs : List RS} {cs' : List V} {res : RV} {s : St} {cs : List AV} {rl : List R2} {l : List Nat} (h1 : resAV s rs = some cs) (h2 : take2L s cs = some (rl, l)) (h3 : l.Nodup) (h4 : l.contains 0 = false) (h5 : res = mkRV rl) (h6 : s.tmps 0 = .ptr 0 0 0) (h7 : s.objs 0 = some (.box (cs'.map (AV.val none)))) : EndP rs cs' res .ret s := ⟨.inr rfl, cs, rl, l, h1, h2, h3, h4, h5, h6, h7⟩
theorem killO_nil {o : Objs} : killO [] o = o := by funext q; simp [killO]
theorem killO_one {k : Nat} {L : List (Nat × Root)} {r : Root} (h : fo L k = some r) : killO [k] (fo L) = fo ((k, .dead) :: L) := by
  rw [← upd_fo]
  funext q
  unfold killO upd
  by_cases e : q = k
  · subst e; simp [h]
  · simp [e]
section
variable {α R : Type}
theorem need_some {p : Prop} [Decidable p] {x : Option R} {r : R} (h : need p x = some r) : p ∧ x = some r := by
  unfold need at h
  split at h
  · exact ⟨by assumption, h⟩
  · cases h
theorem need_true {p : Prop} [Decidable p] {x : Option R} (h : p) : need p x = x := if_pos h
theorem ix_some {L : List α} {n : Int} {v : α} (h : ix L n = some v) : 0 ≤ n ∧ L[n.toNat]? = some v := by
  unfold ix at h
  split at h
  · exact ⟨by assumption, h⟩
  · cases h
theorem ix_lt {L : List α} {n : Int} {v : α} (h : ix L n = some v) : n.toNat < L.length := (List.getElem?_eq_some_iff.1 (ix_some h).2).1
theorem ix_nat {L : List α} {n : Nat} : ix L (n : Int) = L[n]? := by simp [ix]
theorem bind_get {β : Type} {x : Option α} {f : α → Option β} {r : β} (h : x.bind f = some r) : ∃ a, x = some a ∧ f a = some r := Option.bind_eq_some_iff.1 h
end

section
variable {P : Program} {N : Fr} {s s1 : St} {Q : Post0} {K : St → Prop} {ρ : Type} {r : ρ}

theorem w_loopF {S : Type} {x : MC} (body : (S → Option ρ) → S → Option ρ) (st : S → St) {s0 : S} (h0 : loop body s0 = some r)
    (round : ∀ (k : S → Option ρ) (s : S), body k s = some r → W P N x (st s) (thenQ (fun s' => Aw N s' (fun s2 => ∃ t, s2 = st t ∧ k t = some r)) Q)) : W P N (.loop x) (st s0) Q := by
  refine w_loop (ι := {p : Nat × S // iter body p.1 p.2 = some r}) (fun p => st p.1.2) (fun p => p.1.1) ⟨(lim, s0), h0⟩ rfl ?_
  rintro ⟨⟨n, s⟩, h⟩
  cases n with
  | zero => cases h
  | succ n =>
    refine w_mono (round (iter body n) s h) ?_
    intro e s' h'
    cases e <;> first
      | exact h'
      | (intro w0 D0 a w hs
         obtain ⟨s2, ⟨t, h1, h2⟩, h3⟩ := h' w0 D0 a w hs
         exact ⟨s2, ⟨⟨(n, t), h2⟩, h1, Nat.lt_succ_self n⟩, h3⟩)

theorem w_condF {x : X} {y z : MC} {b : Bool} {A B : Option ρ} (hF : (bif b then A else B) = some r) (hb : s.get x = .val none (.bool b)) (h1 : A = some r → W P N y s Q) (h2 : B = some r → W P N z s Q) : W P N (.cond x y z) s Q := by
  cases b
  · exact w_false hb (h2 hF)
  · exact w_true hb (h1 hF)

section
variable {b n i nn id : Nat} {l : List (Nat × AV)} {o ob : Objs} {L : List (Nat × Root)} {g : Option (Nat × Bool)} {ll : List (Nat × MI)}

theorem fr_same {l : List (Nat × AV)} {t : Nat} {v : AV} (h : fr l t = v) : fr ((t, v) :: l) = fr l := by
  funext q
  by_cases e : q = t
  · subst e; simp [fr, h]
  · simp [fr, e]
theorem q_case {bv : Bool} {A B : Option ρ} (t : Nat) (hF : (bif bv then A else B) = some r) (hb : fr l t = .val none (.bool bv)) (h1 : A = some r → R P b ll nn (mkS ((t, AB true) :: l) o n) K) (h2 : B = some r → R P b ll nn (mkS ((t, AB false) :: l) o n) K) : R P b ll nn (mkS l o n) K := by
  cases bv
  · have h := h2 hF
    have e : mkS ((t, AB false) :: l) o n = mkS l o n := by unfold mkS; rw [fr_same hb]
    rw [e] at h; exact h
  · have h := h1 hF
    have e : mkS ((t, AB true) :: l) o n = mkS l o n := by unfold mkS; rw [fr_same hb]
    rw [e] at h; exact h
theorem qp {k : Bool} {d : Nat} {m : MO} (av : AV) (he : ev (mkS l o n) m = some av) (h : R P b ll nn (mkS ((d, av) :: l) o n) K) :
    R P b ((i, ⟨some d, none, .p k m⟩) :: ll) nn (mkS l o n) K := r_p he h
theorem qg {k : Bool} {d t : Nat} {c : Bool} {m : MO} (av : AV) (hg : fr l t = .val none (.bool c)) (he : ev (mkS l o n) m = some av) (h : R P b ll nn (mkS ((d, av) :: l) o n) K) :
    R P b ((i, ⟨some d, some (t, c), .p k m⟩) :: ll) nn (mkS l o n) K := r_pg hg he h
theorem qn {d t : Nat} {c : Bool} {m : AO} (hg : fr l t = .val none (.bool (!c))) (h : R P b ll nn (mkS ((d, .undef) :: l) o n) K) :
    R P b ((i, ⟨some d, some (t, c), m⟩) :: ll) nn (mkS l o n) K := r_no hg h
theorem qu {d t : Nat} {c : Bool} {m : AO} (hg : fr l t = .undef) (h : R P b ll nn (mkS ((d, .undef) :: l) o n) K) :
    R P b ((i, ⟨some d, some (t, c), m⟩) :: ll) nn (mkS l o n) K := r_un hg h
theorem qf {d : Nat} {m : FO} (av : AV) (L' : List (Nat × Root)) (he : eff (mkS l (fo L) n) (b + 64 * i) m = some (av, fo L')) (h : R P b ll nn (mkS ((d, av) :: l) (fo L') n) K) :
    R P b ((i, ⟨some d, none, .f m⟩) :: ll) nn (mkS l (fo L) n) K := r_f he h
theorem qf0 {m : FO} (av : AV) (L' : List (Nat × Root)) (he : eff (mkS l (fo L) n) (b + 64 * i) m = some (av, fo L')) (h : R P b ll nn (mkS l (fo L') n) K) :
    R P b ((i, ⟨none, none, .f m⟩) :: ll) nn (mkS l (fo L) n) K := r_f0 he h
theorem qc {k : Bool} {d f : Nat} {xs : List X} {Vs : List V} {res : RV} (av : AV) (L' : List (Nat × Root)) (ln : Bool) (hc : Con P f Vs res) (hok : okFn P f = true) (ht : trav (snap ln (mkS l (fo L) n) 8) (xs.map (mkS l (fo L) n).get) = some Vs) (hp : plV (b + 64 * i) (fo L) res = (av, fo L'))
    (h : R P b ll nn (mkS ((d, av) :: l) (fo L') n) K) (hfit : res.fits = true := by rfl) (hcl : ln = true → res.clean = true := by first | (intro h; cases h; done) | (intro _; rfl)) :
    R P b ((i, ⟨some d, none, .call k f xs⟩) :: ll) nn (mkS l (fo L) n) K := r_c ln hc hok ht hp h hfit hcl
theorem qcg {k : Bool} {d f t : Nat} {c : Bool} {xs : List X} {Vs : List V} {res : RV} (av : AV) (L' : List (Nat × Root)) (ln : Bool) (hg : fr l t = .val none (.bool c)) (hc : Con P f Vs res) (hok : okFn P f = true) (ht : trav (snap ln (mkS l (fo L) n) 8) (xs.map (mkS l (fo L) n).get) = some Vs) (hp : plV (b + 64 * i) (fo L) res = (av, fo L'))
    (h : R P b ll nn (mkS ((d, av) :: l) (fo L') n) K) (hfit : res.fits = true := by rfl) (hcl : ln = true → res.clean = true := by first | (intro h; cases h; done) | (intro _; rfl)) :
    R P b ((i, ⟨some d, some (t, c), .call k f xs⟩) :: ll) nn (mkS l (fo L) n) K := r_cg ln hg hc hok ht hp h hfit hcl
theorem scrO_fo {ls : List Nat} {L : List (Nat × Root)} : scrO ls (fo L) = fo (L.map fun p => (p.1, scrR ls p.2)) := by
  funext q
  induction L with
  | nil => rfl
  | cons p L ih =>
    obtain ⟨k, r⟩ := p
    simp only [scrO, fo, List.map_cons] at ih ⊢
    by_cases e : q = k
    · simp [e]
    · simp only [e, if_false]; exact ih
/-- A call that changes its first argument. -/
def scrL (l : List Nat) : List (Nat × AV) → List (Nat × AV)
  | [] => []
  | (t, c) :: fs => (t, scrA l c) :: scrL l fs
attribute [simp] scrL scrA scrAs scrR
theorem scrL_fr (ls : List Nat) : ∀ (l : List (Nat × AV)) (t : Nat), fr (scrL ls l) t = scrA ls (fr l t)
  | [], t => by simp [scrL, fr, scrA]
  | (k, c) :: l, t => by
    simp only [scrL, fr]
    by_cases e : t = k
    · simp [e]
    · simp only [e, if_false]; exact scrL_fr ls l t
theorem scrS_mk {ls : List Nat} {l : List (Nat × AV)} {o : Objs} {n : Nat} : scrS ls (mkS l o n) = mkS (scrL ls l) o n := by
  unfold scrS mkS
  congr 1
  funext t
  exact (scrL_fr ls l t).symm
theorem qm1 {d f : Nat} {x : X} {xs : List X} {ro : List V} {r r' : R2} {ls : List Nat} {l' : List (Nat × AV)} (L' : List (Nat × Root)) (hc : ConM P f r r' ro (.agg [])) (hok : okFn P f = true) (ht : takeM (mkS l (fo L) n) ((mkS l (fo L) n).get x) = some (r, ls)) (hn : ls.Nodup) (hlk : like2 r r')
    (ha : trav (snap false (mkS l (fo L) n) 8) (xs.map (mkS l (fo L) n).get) = some ro) (hl : scrL ls l = l') (ho : newO2 (scrO ls (fo L)) ((mkS l (fo L) n).get x) r' = fo L') (h : R P b ll nn (mkS ((d, .undef) :: l') (fo L') n) K) :
    R P b ((i, ⟨some d, none, .call true f (x :: xs)⟩) :: ll) nn (mkS l (fo L) n) K := by
  subst hl
  refine r_step (s1 := mkS ((d, .undef) :: scrL ls l) (fo L') n) (.inr (.inr ⟨rfl, hok, .inl ⟨ro, .agg [], ha, rfl, .inl ⟨r, ls, r', ht, hn, hlk, hc, ?_⟩⟩⟩)) h
  rw [mk_objs, ho, scrS_mk]
  exact put_mkS.symm
/-- A call that uses up its first argument. -/
theorem qX {d f r off len sz : Nat} {own : Bool} {A M : List V} {x : X} {xs : List X} {ro : List V} {res : RV} (av : AV) (L' : List (Nat × Root)) (ln : Bool) (hx : (mkS l (fo L) n).get x = .sl r off len) (hr : fo L r = some (.row own sz A)) (hM : (A.drop off).take len = M) (hc : ConX P f own sz M ro res) (hok : okFn P f = true)
    (ht : trav (snap ln (mkS l (fo ((r, .dead) :: L)) n) 8) (xs.map (mkS l (fo L) n).get) = some ro) (hp : plV (b + 64 * i) (fo ((r, .dead) :: L)) res = (av, fo L'))
    (h : R P b ll nn (mkS ((d, av) :: l) (fo L') n) K) (hfit : res.fits = true := by rfl) (hcl : ln = true → res.clean = true := by first | (intro h; cases h; done) | (intro _; rfl)) :
    R P b ((i, ⟨some d, none, .call true f (x :: xs)⟩) :: ll) nn (mkS l (fo L) n) K := by
  subst hM
  refine r_step (s1 := mkS ((d, av) :: l) (fo L') n) (.inr (.inr ⟨rfl, hok, .inr (.inl ⟨r, off, len, own, sz, A, ro, res, ln, hx, hr, ?_, hc, hfit, hcl, ?_⟩)⟩)) h
  · have e : deadS (mkS l (fo L) n) r = mkS l (fo ((r, .dead) :: L)) n := by unfold deadS mkS; rw [upd_fo]
    rw [e]; exact ht
  · show _ = put _ _ (plV _ (upd (fo L) r (some .dead)) res).1 (plV _ (upd (fo L) r (some .dead)) res).2
    rw [upd_fo, hp]
    exact put_mkS.symm
/-- .. handed a pointer to a variable. -/
theorem qP {d f r : Nat} {x : X} {xs : List X} {cs cs' ro : List V} {res : RV} (ks : List Nat) (av : AV) (L' : List (Nat × Root)) {L1 L2 : List (Nat × Root)} {bx : List AV} (hx : (mkS l (fo L) n).get x = .ptr r 0 0) (hr : fo L r = some (.box bx)) (hbx : cs.map (AV.val none) = bx) (hk : ks.contains r = false) (hc : ConP P f cs cs' ro res) (hok : okFn P f = true)
    (ht : trav (snap true (onlyS (mkS l (fo L) n) ks) 8) (xs.map (mkS l (fo L) n).get) = some ro) (h1 : killO ks (fo L) = fo L1) (h2 : (r, .box (cs'.map (AV.val none))) :: L1 = L2) (hp : plV (b + 64 * i) (fo L2) res = (av, fo L'))
    (h : R P b ll nn (mkS ((d, av) :: l) (fo L') n) K) (hfit : res.fits = true := by rfl) :
    R P b ((i, ⟨some d, none, .call true f (x :: xs)⟩) :: ll) nn (mkS l (fo L) n) K := by
  subst hbx; subst h2
  refine r_step (s1 := mkS ((d, av) :: l) (fo L') n) (.inr (.inr ⟨rfl, hok, .inr (.inr (.inl ⟨r, ks, cs, cs', ro, res, hx, hr, hk, ht, hc, hfit, ?_⟩))⟩)) h
  show _ = put _ _ (plV _ (upd (killO ks (fo L)) r _) res).1 (plV _ (upd (killO ks (fo L)) r _) res).2
  rw [h1, upd_fo, hp]
  exact put_mkS.symm
/-- .. that gives a pointer to a new variable. -/
theorem qN {d f : Nat} {x : X} {xs : List X} {cs ro : List V} (L' : List (Nat × Root)) (hc : ConN P f ro cs) (hok : okFn P f = true) (ht : trav (snap false (mkS l (fo L) n) 8) ((x :: xs).map (mkS l (fo L) n).get) = some ro) (hL : (b + 64 * i, .box (cs.map (AV.val none))) :: L = L')
    (h : R P b ll nn (mkS ((d, .ptr (b + 64 * i) 0 0) :: l) (fo L') n) K) :
    R P b ((i, ⟨some d, none, .call true f (x :: xs)⟩) :: ll) nn (mkS l (fo L) n) K := by
  subst hL
  refine r_step (s1 := mkS ((d, .ptr (b + 64 * i) 0 0) :: l) (fo ((b + 64 * i, .box (cs.map (AV.val none))) :: L)) n) (.inr (.inr ⟨rfl, hok, .inr (.inr (.inr ⟨cs, ro, ht, hc, ?_⟩))⟩)) h
  show _ = put _ _ _ (upd (fo L) _ _)
  rw [upd_fo]
  exact put_mkS.symm
theorem whole_row {α : Type} {e : α → V} {A : List α} {m : Nat} (hm : m = A.length) : ((A.map e).drop 0).take m = A.map e := by
  subst hm; rw [List.drop_zero, List.take_of_length_le (by simp)]
end

section
variable {s : St} {α : Type} {e : α → V} {A : List α} {n : Int} {k : IntKind} {v : α} {x i : X} {sz : Nat}
theorem ev_iad_n (hx : s.get x = .val none (.sl sz (A.map e))) (hi : s.get i = .val none (.int k n)) (h : ix A n = some v) {cs : List V} (hc : (e v).cells = cs) : ev s (.iad x i sz) = some (.val none (.ptr cs)) := by
  obtain ⟨h0, h1⟩ := ix_some h
  simp [ev, hx, hi, h0, h1, hc]
theorem ev_iad_s {r : Nat} (hx : s.get x = .val (some r) (.sl sz (A.map e))) (hr : live (s.objs r) = true) (hi : s.get i = .val none (.int k n)) (h : ix A n = some v) {cs : List V} (hc : (e v).cells = cs) : ev s (.iad x i sz) = some (.val (some r) (.ptr cs)) := by
  obtain ⟨h0, h1⟩ := ix_some h
  have e1 : (A.map e)[n.toNat]? = some (e v) := by rw [List.getElem?_map, h1]; rfl
  simp only [ev, hx, hi, h0, e1, hc, St.view, hr, asI, if_true]
theorem ev_iad_r {r m : Nat} {own : Bool} (hx : s.get x = .sl r 0 m) (hm : m = A.length) (hr : s.objs r = some (.row own sz (A.map e))) (hi : s.get i = .val none (.int k n)) (h : ix A n = some v) : ev s (.iad x i sz) = some (.ptr r n.toNat 0) := by
  obtain ⟨h0, h1⟩ := ix_some h
  subst hm
  have := ix_lt h
  simp [ev, hx, hi, h0, h1, hr, this]
theorem ev_ld_r {r j f m : Nat} {ag own : Bool} {u : V} {av : AV} (hx : s.get x = .ptr r j f) (hr : s.objs r = some (.row own sz (A.map e))) (h : A[j]? = some v) (hu : ldV (e v).cells f m ag = some u) (hm : mk (some r) u = av) : ev s (.ld x m ag) = some av := by
  simp only [ev, hx, hr, List.getElem?_map, h, Option.map_some, hu, hm]
theorem ev_len_n (hx : s.get x = .val none (.sl sz (A.map e))) : ev s (.len x) = some (AI A.length) := by
  simp only [ev, hx, St.view, List.length_map]
theorem ev_len_s {r : Nat} (hx : s.get x = .val (some r) (.sl sz (A.map e))) (hr : live (s.objs r) = true) : ev s (.len x) = some (AI A.length) := by
  simp only [ev, hx, St.view, hr, if_true, List.length_map]
theorem ev_ixs {b : List UInt8} {c : UInt8} (hx : s.get x = .val none (.str b)) (hi : s.get i = .val none (.int k n)) (h : ix b n = some c) : ev s (.ixs x i) = some (.val none (.int .u8 c.toNat)) := by
  obtain ⟨h0, h1⟩ := ix_some h
  simp [ev, hx, hi, h0, h1, St.view, asI]
theorem ev_add_s {a b : List UInt8} {y : X} (hx : s.get x = .val none (.str a)) (hy : s.get y = .val none (.str b)) (h : a.length + b.length < 9223372036854775808) : ev s (.bin .add x y) = some (.val none (.str (a ++ b))) := by
  simp [ev, hx, hy, St.view, binV, binS, h]
theorem ev_quo {a b : Int} {y : X} (hx : s.get x = .val none (.int k a)) (hy : s.get y = .val none (.int k b)) (h : b ≠ 0) : ev s (.bin .quo x y) = some (.val none (.int k (k.wrap (a.tdiv b)))) := by
  simp [ev, hx, hy, St.view, binV, binI, h]
theorem ev_rem {a b : Int} {y : X} (hx : s.get x = .val none (.int k a)) (hy : s.get y = .val none (.int k b)) (h : b ≠ 0) : ev s (.bin .rem x y) = some (.val none (.int k (a.tmod b))) := by
  simp [ev, hx, hy, St.view, binV, binI, h]
theorem ev_shr {a b : Int} {k' : IntKind} {y : X} (hx : s.get x = .val none (.int k a)) (hy : s.get y = .val none (.int k' b)) (h : 0 ≤ b) : ev s (.bin .shr x y) = some (.val none (.int k (a.fdiv (2 ^ (min b.toNat k.bits))))) := by
  have : ¬ b < 0 := by omega
  simp [ev, hx, hy, St.view, binV, this]
theorem bnd_some {d : Nat} (hx : s.get x = .val none (.int k n)) (h : 0 ≤ n) : bnd s d (some x) = some n.toNat := by
  simp [bnd, hx, St.view, asI, h]
theorem sub_map {lo hi : Int} : ((A.map e).take hi.toNat).drop lo.toNat = (sub A lo hi).map e := by
  simp [sub, List.map_take, List.map_drop]
theorem ev_slc_n {lo hi : Int} {xl xh : Option X} (hx : s.get x = .val none (.sl sz (A.map e))) (hl : bnd s 0 xl = some lo.toNat) (hh : bnd s A.length xh = some hi.toNat) (h : 0 ≤ lo ∧ lo ≤ hi ∧ hi ≤ A.length) : ev s (.slc x xl xh sz) = some (.val none (.sl sz ((sub A lo hi).map e))) := by
  have h1 : lo.toNat ≤ hi.toNat := by omega
  have h2 : hi.toNat ≤ A.length := by omega
  simp only [ev, hx, St.view, List.length_map, hl, hh, h1, h2, and_self, if_true, sub_map]
end

section
variable {b n i nn id : Nat} {l : List (Nat × AV)} {L : List (Nat × Root)} {ll : List (Nat × MI)} {α : Type} {e : α → V} {A B : List α} {d : Nat}
theorem app_core {r sz bytes : Nat} {own fl mv : Bool} {o o2 : Objs} {y : AV} (hs : srcOf r o sz mv y = some (B.map e, fl, o2)) (h : room (A.length + B.length) bytes) :
    appTo id r 0 A.length own (A.map e) o y sz bytes mv = some (.sl id 0 (A ++ B).length, upd (upd o2 r (some .dead)) id (some (.row (own && fl) sz ((A ++ B).map e)))) := by
  have h1 := h.1
  have h2 := h.2
  simp only [appTo, hs, List.length_map, h1, h2, and_self, if_true, List.drop_zero, List.map_append, List.length_append]
  rw [List.take_of_length_le (by simp)]
theorem src_l {r r2 sz m : Nat} {own2 : Bool} {o : Objs} (hm : m = B.length) (hr2 : o r2 = some (.row own2 sz (B.map e))) (hne : r2 ≠ r) : srcOf r o sz true (.sl r2 0 m) = some (B.map e, own2, upd o r2 (some .dead)) := by
  subst hm
  simp [srcOf, hr2, hne, List.take_of_length_le]
theorem src_v {r sz : Nat} {mv : Bool} {o : Objs} (hp : ∀ a, (e a).plain = true) : srcOf r o sz mv (.val none (.sl sz (B.map e))) = some (B.map e, true, o) := by
  have e4 : (B.map e).all V.plain = true := by simp [List.all_eq_true, hp]
  simp only [srcOf, e4, ne_eq, not_true_eq_false, if_false]
section
variable {x : Nat} {y : X} {r r2 sz bytes m m2 q : Nat} {own own2 mv : Bool}
theorem effT_app (hx : fr l x = .sl r 0 m) (hm : m = A.length) (hr : fo L r = some (.row own sz (A.map e))) {fl : Bool} {L2 : List (Nat × Root)} {w : AV} (hy : (mkS l (fo L) n).get y = w) (hs : srcOf r (fo L) sz mv w = some (B.map e, fl, fo L2)) (h : room (A.length + B.length) bytes) :
    eff (mkS l (fo L) n) id (.app (.t x) y sz bytes mv) = some (.sl id 0 (A ++ B).length, fo ((id, .row (own && fl) sz ((A ++ B).map e)) :: (r, .dead) :: L2)) := by
  subst hm
  have := app_core (id := id) (own := own) (bytes := bytes) hs h
  simp only [eff, mk_get, hx, mk_objs, hr, hy, this, upd_fo, if_true]
theorem effT_app_l (hx : fr l x = .sl r 0 m) (hm : m = A.length) (hr : fo L r = some (.row own sz (A.map e))) (hy : (mkS l (fo L) n).get y = .sl r2 0 m2) (hm2 : m2 = B.length) (hr2 : fo L r2 = some (.row own2 sz (B.map e))) (hne : r2 ≠ r) (h : room (A.length + B.length) bytes) {ow : Bool} (how : (own && own2) = ow) :
    eff (mkS l (fo L) n) id (.app (.t x) y sz bytes true) = some (.sl id 0 (A ++ B).length, fo ((id, .row ow sz ((A ++ B).map e)) :: (r, .dead) :: (r2, .dead) :: L)) := by
  subst how; exact effT_app hx hm hr hy (by rw [← upd_fo]; exact src_l hm2 hr2 hne) h
theorem effT_app_v (hx : fr l x = .sl r 0 m) (hm : m = A.length) (hr : fo L r = some (.row own sz (A.map e))) (hy : (mkS l (fo L) n).get y = .val none (.sl sz (B.map e))) (hp : ∀ a, (e a).plain = true) (h : room (A.length + B.length) bytes) :
    eff (mkS l (fo L) n) id (.app (.t x) y sz bytes mv) = some (.sl id 0 (A ++ B).length, fo ((id, .row own sz ((A ++ B).map e)) :: (r, .dead) :: L)) := by
  have := effT_app (mv := mv) (id := id) hx hm hr hy (src_v hp) h
  rw [Bool.and_true] at this; exact this
theorem effT_app_v0 (hx : fr l x = .sl r 0 m) (hm : m = 0) (hr : fo L r = some (.row own sz (([] : List α).map e))) (hy : (mkS l (fo L) n).get y = .val none (.sl sz (B.map e))) (hp : ∀ a, (e a).plain = true) (h : room B.length bytes) :
    eff (mkS l (fo L) n) id (.app (.t x) y sz bytes mv) = some (.sl id 0 B.length, fo ((id, .row own sz (B.map e)) :: (r, .dead) :: L)) :=
  effT_app_v (A := []) hx hm hr hy hp (by simpa using h)
end
end
end

/-- A function that the model stands in for by its search for a byte. -/
structure IsIdx (P : Program) (f : FuncId) : Prop where
  h1 : P.funcs[f]?.map (fun fn => fn.name == "runtime.NumGoroutine") = some false
  h2 : P.funcs[f]?.map (fun fn => fn.body.isNone) = some true
  h3 : P.funcs[f]?.map Extern.findNext = some none
  h4 : P.funcs[f]?.map Extern.find = some (some Extern.BytealgIndexByte.indexByte)
section
variable {P : Program} {b i : Nat} {ll : List (Nat × MI)} {nn : Nat} {l : List (Nat × AV)} {n : Nat} {K : St → Prop} {L : List (Nat × Root)}
end
end Go.Ab
