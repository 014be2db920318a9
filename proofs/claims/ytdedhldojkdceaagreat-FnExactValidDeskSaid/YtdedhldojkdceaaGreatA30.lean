/- Walks along printed pure functions (own framework). -/
import Derived.Test.YtdedhldojkdceaaGreatA27
import Derived.Laws.Externs
set_option linter.unusedVariables false
set_option linter.unusedSimpArgs false
namespace Go.Ab
open Go.RowKit

abbrev AI (n : Int) : AV := .val none (.int .i64 n)
abbrev AB (b : Bool) : AV := .val none (.bool b)
abbrev AS (s : List UInt8) : AV := .val none (.str s)
abbrev w64 (n : Int) : Int := IntKind.wrap .i64 n

/-- More rounds than any loop makes. -/
def lim : Nat := 1208925819614629174706176
def iter {S R : Type} (body : (S → Option R) → S → Option R) : Nat → S → Option R
  | 0, _ => none
  | n + 1, s => body (iter body n) s
def loop {S R : Type} (body : (S → Option R) → S → Option R) (s : S) : Option R := iter body lim s
def need {R : Type} (p : Prop) [Decidable p] (x : Option R) : Option R := if p then x else none
def ix {α : Type} (L : List α) (n : Int) : Option α := if 0 ≤ n then L[n.toNat]? else none
def sub {α : Type} (L : List α) (lo hi : Int) : List α := (L.take hi.toNat).drop lo.toNat
@[simp] def eL {α : Type} (sz : Nat) (e : α → V) (A : List α) : V := .sl sz (A.map e)
def room (n bytes : Nat) : Prop := n ≤ 9223372036854775807 ∧ n * bytes ≤ 140737488355328
instance (n bytes : Nat) : Decidable (room n bytes) := inferInstanceAs (Decidable (_ ∧ _))

section
variable {α R : Type}
theorem need_some {p : Prop} [Decidable p] {x : Option R} {r : R} (h : need p x = some r) : p ∧ x = some r := by
  unfold need at h
  split at h
  · exact ⟨by assumption, h⟩
  · cases h
theorem need_true {p : Prop} [Decidable p] {x : Option R} (h : p) : need p x = x := if_pos h
theorem ix_some {L : List α} {n : Int} {v : α} (h : ix L n = some v) : 0 ≤ n ∧ L[n.toNat]? = some v := by
  unfold ix at h
  split at h
  · exact ⟨by assumption, h⟩
  · cases h
theorem ix_lt {L : List α} {n : Int} {v : α} (h : ix L n = some v) : n.toNat < L.length := (List.getElem?_eq_some_iff.1 (ix_some h).2).1
theorem ix_nat {L : List α} {n : Nat} : ix L (n : Int) = L[n]? := by simp [ix]
theorem bind_get {β : Type} {x : Option α} {f : α → Option β} {r : β} (h : x.bind f = some r) : ∃ a, x = some a ∧ f a = some r := Option.bind_eq_some_iff.1 h
end

section
variable {P : Program} {N : Fr} {s s1 : St} {Q : Post0} {K : St → Prop} {ρ : Type} {r : ρ}

theorem w_loopF {S : Type} {x : MC} (body : (S → Option ρ) → S → Option ρ) (st : S → St) {s0 : S} (h0 : loop body s0 = some r)
    (round : ∀ (k : S → Option ρ) (s : S), body k s = some r → W P N x (st s) (thenQ (fun s' => Aw N s' (fun s2 => ∃ t, s2 = st t ∧ k t = some r)) Q)) : W P N (.loop x) (st s0) Q := by
  refine w_loop (ι := {p : Nat × S // iter body p.1 p.2 = some r}) (fun p => st p.1.2) (fun p => p.1.1) ⟨(lim, s0), h0⟩ rfl ?_
  rintro ⟨⟨n, s⟩, h⟩
  cases n with
  | zero => cases h
  | succ n =>
    refine w_mono (round (iter body n) s h) ?_
    intro e s' h'
    cases e <;> first
      | exact h'
      | (intro w0 D0 a w hs
         obtain ⟨s2, ⟨t, h1, h2⟩, h3⟩ := h' w0 D0 a w hs
         exact ⟨s2, ⟨⟨(n, t), h2⟩, h1, Nat.lt_succ_self n⟩, h3⟩)

theorem w_condF {x : X} {y z : MC} {b : Bool} {A B : Option ρ} (hF : (bif b then A else B) = some r) (hb : s.get x = .val none (.bool b)) (h1 : A = some r → W P N y s Q) (h2 : B = some r → W P N z s Q) : W P N (.cond x y z) s Q := by
  cases b
  · exact w_false hb (h2 hF)
  · exact w_true hb (h1 hF)

section
variable {b n i nn id : Nat} {l : List (Nat × AV)} {o ob : Objs} {L : List (Nat × Root)} {g : Option (Nat × Bool)} {ll : List (Nat × MI)}

theorem fr_same {l : List (Nat × AV)} {t : Nat} {v : AV} (h : fr l t = v) : fr ((t, v) :: l) = fr l := by
  funext q
  by_cases e : q = t
  · subst e; simp [fr, h]
  · simp [fr, e]
theorem q_case {bv : Bool} {A B : Option ρ} (t : Nat) (hF : (bif bv then A else B) = some r) (hb : fr l t = .val none (.bool bv)) (h1 : A = some r → R P b ll nn (mkS ((t, AB true) :: l) o n) K) (h2 : B = some r → R P b ll nn (mkS ((t, AB false) :: l) o n) K) : R P b ll nn (mkS l o n) K := by
  cases bv
  · have h := h2 hF
    have e : mkS ((t, AB false) :: l) o n = mkS l o n := by unfold mkS; rw [fr_same hb]
    rw [e] at h; exact h
  · have h := h1 hF
    have e : mkS ((t, AB true) :: l) o n = mkS l o n := by unfold mkS; rw [fr_same hb]
    rw [e] at h; exact h
theorem qp {k : Bool} {d : Nat} {m : MO} (av : AV) (he : ev (mkS l o n) m = some av) (h : R P b ll nn (mkS ((d, av) :: l) o n) K) :
    R P b ((i, ⟨some d, none, .p k m⟩) :: ll) nn (mkS l o n) K := r_p he h
theorem qg {k : Bool} {d t : Nat} {c : Bool} {m : MO} (av : AV) (hg : fr l t = .val none (.bool c)) (he : ev (mkS l o n) m = some av) (h : R P b ll nn (mkS ((d, av) :: l) o n) K) :
    R P b ((i, ⟨some d, some (t, c), .p k m⟩) :: ll) nn (mkS l o n) K := r_pg hg he h
theorem qn {d t : Nat} {c : Bool} {m : AO} (hg : fr l t = .val none (.bool (!c))) (h : R P b ll nn (mkS ((d, .undef) :: l) o n) K) :
    R P b ((i, ⟨some d, some (t, c), m⟩) :: ll) nn (mkS l o n) K := r_no hg h
theorem qu {d t : Nat} {c : Bool} {m : AO} (hg : fr l t = .undef) (h : R P b ll nn (mkS ((d, .undef) :: l) o n) K) :
    R P b ((i, ⟨some d, some (t, c), m⟩) :: ll) nn (mkS l o n) K := r_un hg h
theorem qf {d : Nat} {m : FO} (av : AV) (L' : List (Nat × Root)) (he : eff (mkS l (fo L) n) (b + 64 * i) m = some (av, fo L')) (h : R P b ll nn (mkS ((d, av) :: l) (fo L') n) K) :
    R P b ((i, ⟨some d, none, .f m⟩) :: ll) nn (mkS l (fo L) n) K := r_f he h
theorem qf0 {m : FO} (av : AV) (L' : List (Nat × Root)) (he : eff (mkS l (fo L) n) (b + 64 * i) m = some (av, fo L')) (h : R P b ll nn (mkS l (fo L') n) K) :
    R P b ((i, ⟨none, none, .f m⟩) :: ll) nn (mkS l (fo L) n) K := r_f0 he h
theorem qfg {d t : Nat} {c : Bool} {m : FO} (av : AV) (L' : List (Nat × Root)) (hg : fr l t = .val none (.bool c)) (he : eff (mkS l (fo L) n) (b + 64 * i) m = some (av, fo L')) (h : R P b ll nn (mkS ((d, av) :: l) (fo L') n) K) :
    R P b ((i, ⟨some d, some (t, c), .f m⟩) :: ll) nn (mkS l (fo L) n) K := r_fg hg he h
theorem qc {k : Bool} {d f : Nat} {xs : List X} {Vs : List V} {res : RV} (av : AV) (L' : List (Nat × Root)) (ln : Bool) (hc : Con P f Vs res) (hok : okFn P f = true) (ht : trav (snap ln (mkS l (fo L) n) 8) (xs.map (mkS l (fo L) n).get) = some Vs) (hp : plV (b + 64 * i) (fo L) res = (av, fo L'))
    (h : R P b ll nn (mkS ((d, av) :: l) (fo L') n) K) (hfit : res.fits = true := by rfl) (hcl : ln = true → res.clean = true := by first | (intro h; cases h; done) | (intro _; rfl)) :
    R P b ((i, ⟨some d, none, .call k f xs⟩) :: ll) nn (mkS l (fo L) n) K := r_c ln hc hok ht hp h hfit hcl
theorem qcg {k : Bool} {d f t : Nat} {c : Bool} {xs : List X} {Vs : List V} {res : RV} (av : AV) (L' : List (Nat × Root)) (ln : Bool) (hg : fr l t = .val none (.bool c)) (hc : Con P f Vs res) (hok : okFn P f = true) (ht : trav (snap ln (mkS l (fo L) n) 8) (xs.map (mkS l (fo L) n).get) = some Vs) (hp : plV (b + 64 * i) (fo L) res = (av, fo L'))
    (h : R P b ll nn (mkS ((d, av) :: l) (fo L') n) K) (hfit : res.fits = true := by rfl) (hcl : ln = true → res.clean = true := by first | (intro h; cases h; done) | (intro _; rfl)) :
    R P b ((i, ⟨some d, some (t, c), .call k f xs⟩) :: ll) nn (mkS l (fo L) n) K := r_cg ln hg hc hok ht hp h hfit hcl
theorem qcv {d f : Nat} {x : X} {xs : List X} {caps : List AV} {Vs : List V} {res : RV} (av : AV) (L' : List (Nat × Root)) (ln : Bool) (hx : fnOf (mkS l (fo L) n) ((mkS l (fo L) n).get x) = some (f, caps)) (hc : Con P f Vs res) (hok : okFn P f = true) (ht : trav (snap ln (mkS l (fo L) n) 8) (xs.map (mkS l (fo L) n).get ++ caps) = some Vs) (hp : plV (b + 64 * i) (fo L) res = (av, fo L'))
    (h : R P b ll nn (mkS ((d, av) :: l) (fo L') n) K) (hfit : res.fits = true := by rfl) (hcl : ln = true → res.clean = true := by first | (intro h; cases h; done) | (intro _; rfl)) :
    R P b ((i, ⟨some d, none, .callv x xs⟩) :: ll) nn (mkS l (fo L) n) K := r_cv ln hx hc hok ht hp h hfit hcl
theorem scrO_fo {ls : List Nat} {L : List (Nat × Root)} : scrO ls (fo L) = fo (L.map fun p => (p.1, scrR ls p.2)) := by
  funext q
  induction L with
  | nil => rfl
  | cons p L ih =>
    obtain ⟨k, r⟩ := p
    simp only [scrO, fo, List.map_cons] at ih ⊢
    by_cases e : q = k
    · simp [e]
    · simp only [e, if_false]; exact ih
/-- A call that changes its first argument. -/
def scrL (l : List Nat) : List (Nat × AV) → List (Nat × AV)
  | [] => []
  | (t, c) :: fs => (t, scrA l c) :: scrL l fs
attribute [simp] scrL scrA scrAs scrR
theorem scrL_fr (ls : List Nat) : ∀ (l : List (Nat × AV)) (t : Nat), fr (scrL ls l) t = scrA ls (fr l t)
  | [], t => by simp [scrL, fr, scrA]
  | (k, c) :: l, t => by
    simp only [scrL, fr]
    by_cases e : t = k
    · simp [e]
    · simp only [e, if_false]; exact scrL_fr ls l t
theorem scrS_mk {ls : List Nat} {l : List (Nat × AV)} {o : Objs} {n : Nat} : scrS ls (mkS l o n) = mkS (scrL ls l) o n := by
  unfold scrS mkS
  congr 1
  funext t
  exact (scrL_fr ls l t).symm
theorem qm1 {d f : Nat} {x : X} {xs : List X} {ro : List V} {r r' : R2} {ls : List Nat} {l' : List (Nat × AV)} (L' : List (Nat × Root)) (hc : ConM P f r r' ro (.agg [])) (hok : okFn P f = true) (ht : takeM (mkS l (fo L) n) ((mkS l (fo L) n).get x) = some (r, ls)) (hn : ls.Nodup) (hlk : like2 r r')
    (ha : trav (snap false (mkS l (fo L) n) 8) (xs.map (mkS l (fo L) n).get) = some ro) (hl : scrL ls l = l') (ho : newO2 (scrO ls (fo L)) ((mkS l (fo L) n).get x) r' = fo L') (h : R P b ll nn (mkS ((d, .undef) :: l') (fo L') n) K) :
    R P b ((i, ⟨some d, none, .call true f (x :: xs)⟩) :: ll) nn (mkS l (fo L) n) K := by
  subst hl
  refine r_step (s1 := mkS ((d, .undef) :: scrL ls l) (fo L') n) (.inr (.inr ⟨rfl, hok, .inl ⟨ro, .agg [], ha, rfl, .inl ⟨r, ls, r', ht, hn, hlk, hc, ?_⟩⟩⟩)) h
  rw [mk_objs, ho, scrS_mk]
  exact put_mkS.symm
/-- A call that uses up its first argument. -/
theorem qX {d f r off len sz : Nat} {own : Bool} {A M : List V} {x : X} {xs : List X} {ro : List V} {res : RV} (av : AV) (L' : List (Nat × Root)) (ln : Bool) (hx : (mkS l (fo L) n).get x = .sl r off len) (hr : fo L r = some (.row own sz A)) (hM : (A.drop off).take len = M) (hc : ConX P f own sz M ro res) (hok : okFn P f = true)
    (ht : trav (snap ln (mkS l (fo ((r, .dead) :: L)) n) 8) (xs.map (mkS l (fo L) n).get) = some ro) (hp : plV (b + 64 * i) (fo ((r, .dead) :: L)) res = (av, fo L'))
    (h : R P b ll nn (mkS ((d, av) :: l) (fo L') n) K) (hfit : res.fits = true := by rfl) (hcl : ln = true → res.clean = true := by first | (intro h; cases h; done) | (intro _; rfl)) :
    R P b ((i, ⟨some d, none, .call true f (x :: xs)⟩) :: ll) nn (mkS l (fo L) n) K := by
  subst hM
  refine r_step (s1 := mkS ((d, av) :: l) (fo L') n) (.inr (.inr ⟨rfl, hok, .inr ⟨r, off, len, own, sz, A, ro, res, ln, hx, hr, ?_, hc, hfit, hcl, ?_⟩⟩)) h
  · have e : deadS (mkS l (fo L) n) r = mkS l (fo ((r, .dead) :: L)) n := by unfold deadS mkS; rw [upd_fo]
    rw [e]; exact ht
  · show _ = put _ _ (plV _ (upd (fo L) r (some .dead)) res).1 (plV _ (upd (fo L) r (some .dead)) res).2
    rw [upd_fo, hp]
    exact put_mkS.symm
theorem whole_row {α : Type} {e : α → V} {A : List α} {m : Nat} (hm : m = A.length) : ((A.map e).drop 0).take m = A.map e := by
  subst hm; rw [List.drop_zero, List.take_of_length_le (by simp)]
end

section
variable {s : St} {α : Type} {e : α → V} {A : List α} {n : Int} {k : IntKind} {v : α} {x i : X} {sz : Nat}
theorem ev_iad_n (hx : s.get x = .val none (.sl sz (A.map e))) (hi : s.get i = .val none (.int k n)) (h : ix A n = some v) {cs : List V} (hc : (e v).cells = cs) : ev s (.iad x i sz) = some (.val none (.ptr cs)) := by
  obtain ⟨h0, h1⟩ := ix_some h
  simp [ev, hx, hi, h0, h1, hc]
theorem ev_iad_r {r m : Nat} {own : Bool} (hx : s.get x = .sl r 0 m) (hm : m = A.length) (hr : s.objs r = some (.row own sz (A.map e))) (hi : s.get i = .val none (.int k n)) (h : ix A n = some v) : ev s (.iad x i sz) = some (.ptr r n.toNat 0) := by
  obtain ⟨h0, h1⟩ := ix_some h
  subst hm
  have := ix_lt h
  simp [ev, hx, hi, h0, h1, hr, this]
theorem ev_len_n (hx : s.get x = .val none (.sl sz (A.map e))) : ev s (.len x) = some (AI A.length) := by
  simp only [ev, hx, St.view, List.length_map]
theorem ev_ixs {b : List UInt8} {c : UInt8} (hx : s.get x = .val none (.str b)) (hi : s.get i = .val none (.int k n)) (h : ix b n = some c) : ev s (.ixs x i) = some (.val none (.int .u8 c.toNat)) := by
  obtain ⟨h0, h1⟩ := ix_some h
  simp [ev, hx, hi, h0, h1, St.view, asI]
theorem ev_rem {a b : Int} {y : X} (hx : s.get x = .val none (.int k a)) (hy : s.get y = .val none (.int k b)) (h : b ≠ 0) : ev s (.bin .rem x y) = some (.val none (.int k (a.tmod b))) := by
  simp [ev, hx, hy, St.view, binV, binI, h]
end

section
variable {b n i nn id : Nat} {l : List (Nat × AV)} {L : List (Nat × Root)} {ll : List (Nat × MI)} {α : Type} {e : α → V} {A B : List α} {d : Nat}
theorem effT_mks {l0 c0 : X} {lo c : Int} {k k' : IntKind} {z : V} {a : α} {sz bytes : Nat} (hl : (mkS l (fo L) n).get l0 = .val none (.int k lo)) (hc : (mkS l (fo L) n).get c0 = .val none (.int k' c)) (h : 0 ≤ lo ∧ lo ≤ c ∧ c ≤ 9223372036854775807 ∧ (bytes : Int) * c ≤ 281474976710656) (hz : e a = z) :
    eff (mkS l (fo L) n) id (.mks sz bytes z l0 c0) = some (.sl id 0 (List.replicate lo.toNat a).length, fo ((id, .row true sz ((List.replicate lo.toNat a).map e)) :: L)) := by
  simp only [eff, hl, hc, St.view, asI, h, and_self, if_true, mk_objs, upd_fo, List.map_replicate, hz, List.length_replicate]
theorem app_core {r sz bytes : Nat} {own fl mv : Bool} {o o2 : Objs} {y : AV} (hs : srcOf r o sz mv y = some (B.map e, fl, o2)) (h : room (A.length + B.length) bytes) :
    appTo id r 0 A.length own (A.map e) o y sz bytes mv = some (.sl id 0 (A ++ B).length, upd (upd o2 r (some .dead)) id (some (.row (own && fl) sz ((A ++ B).map e)))) := by
  have h1 := h.1
  have h2 := h.2
  simp only [appTo, hs, List.length_map, h1, h2, and_self, if_true, List.drop_zero, List.map_append, List.length_append]
  rw [List.take_of_length_le (by simp)]
theorem src_l {r r2 sz m : Nat} {own2 : Bool} {o : Objs} (hm : m = B.length) (hr2 : o r2 = some (.row own2 sz (B.map e))) (hne : r2 ≠ r) : srcOf r o sz true (.sl r2 0 m) = some (B.map e, own2, upd o r2 (some .dead)) := by
  subst hm
  simp [srcOf, hr2, hne, List.take_of_length_le]
section
variable {x : Nat} {y : X} {r r2 sz bytes m m2 q : Nat} {own own2 mv : Bool}
theorem effT_app (hx : fr l x = .sl r 0 m) (hm : m = A.length) (hr : fo L r = some (.row own sz (A.map e))) {fl : Bool} {L2 : List (Nat × Root)} {w : AV} (hy : (mkS l (fo L) n).get y = w) (hs : srcOf r (fo L) sz mv w = some (B.map e, fl, fo L2)) (h : room (A.length + B.length) bytes) :
    eff (mkS l (fo L) n) id (.app (.t x) y sz bytes mv) = some (.sl id 0 (A ++ B).length, fo ((id, .row (own && fl) sz ((A ++ B).map e)) :: (r, .dead) :: L2)) := by
  subst hm
  have := app_core (id := id) (own := own) (bytes := bytes) hs h
  simp only [eff, mk_get, hx, mk_objs, hr, hy, this, upd_fo, if_true]
theorem effT_app_l (hx : fr l x = .sl r 0 m) (hm : m = A.length) (hr : fo L r = some (.row own sz (A.map e))) (hy : (mkS l (fo L) n).get y = .sl r2 0 m2) (hm2 : m2 = B.length) (hr2 : fo L r2 = some (.row own2 sz (B.map e))) (hne : r2 ≠ r) (h : room (A.length + B.length) bytes) {ow : Bool} (how : (own && own2) = ow) :
    eff (mkS l (fo L) n) id (.app (.t x) y sz bytes true) = some (.sl id 0 (A ++ B).length, fo ((id, .row ow sz ((A ++ B).map e)) :: (r, .dead) :: (r2, .dead) :: L)) := by
  subst how; exact effT_app hx hm hr hy (by rw [← upd_fo]; exact src_l hm2 hr2 hne) h
theorem set_get {A : List α} {i : Nat} {a b : α} (h : A[i]? = some a) : (A.set i b)[i]? = some b := by
  rw [List.getElem?_set_self]; exact (List.getElem?_eq_some_iff.1 h).1
theorem effT_st {xp : X} {v : X} {i f k : Nat} {a a' : α} {u : V} {fl : Bool} {L2 : List (Nat × Root)} (hx : (mkS l (fo L) n).get xp = .ptr r i f) (hr : fo L r = some (.row own sz (A.map e))) (ha : A[i]? = some a) (hv : elem (fo L) ((mkS l (fo L) n).get v) = some (u, fl, fo L2)) (hl : live (fo L2 r) = true) (hn : u.cells.length = k) (hp : patch (e a) f u.cells = e a') (hf : Nat.ble (f + k) sz = true) {ow : Bool} (how : (own && fl) = ow) :
    eff (mkS l (fo L) n) id (.st xp v k) = some (.undef, fo ((r, .row ow sz ((A.set i a').map e)) :: L2)) := by
  subst how
  have e1 : (A.map e)[i]? = some (e a) := by rw [List.getElem?_map, ha]; rfl
  have hf := Nat.le_of_ble_eq_true hf
  simp only [eff, hx, mk_objs, hr, e1, hv, hl, hn, hf, and_self, if_true, hp, List.map_set, upd_fo]
end
end
end

/-- A function that the model stands in for by its search for a byte. -/
structure IsIdx (P : Program) (f : FuncId) : Prop where
  h1 : P.funcs[f]?.map (fun fn => fn.name == "runtime.NumGoroutine") = some false
  h2 : P.funcs[f]?.map (fun fn => fn.body.isNone) = some true
  h3 : P.funcs[f]?.map Extern.findNext = some none
  h4 : P.funcs[f]?.map Extern.find = some (some Extern.BytealgIndexByte.indexByte)
section
variable {P : Program} {b i : Nat} {ll : List (Nat × MI)} {nn : Nat} {l : List (Nat × AV)} {n : Nat} {K : St → Prop} {L : List (Nat × Root)}
end
end Go.Ab
