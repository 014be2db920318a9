/- Walks along printed pure functions (own framework). -/
import Derived.Test.YtcklbccpfpnmbaaGreatDoorA27
import Derived.Laws.Externs
set_option linter.unusedVariables false
set_option linter.unusedSimpArgs false
namespace Go.Ab
open Go.RowKit

abbrev AI (n : Int) : AV := .val none (.int .i64 n)
abbrev AB (b : Bool) : AV := .val none (.bool b)
abbrev AS (s : List UInt8) : AV := .val none (.str s)
abbrev w64 (n : Int) : Int := IntKind.wrap .i64 n

/-- More rounds than any loop makes. -/
def lim : Nat := 1208925819614629174706176
def iter {S R : Type} (body : (S → Option R) → S → Option R) : Nat → S → Option R
  | 0, _ => none
  | n + 1, s => body (iter body n) s
def loop {S R : Type} (body : (S → Option R) → S → Option R) (s : S) : Option R := iter body lim s
def need {R : Type} (p : Prop) [Decidable p] (x : Option R) : Option R := if p then x else none
def ix {α : Type} (L : List α) (n : Int) : Option α := if 0 ≤ n then L[n.toNat]? else none
def sub {α : Type} (L : List α) (lo hi : Int) : List α := (L.take hi.toNat).drop lo.toNat
@[simp] def eL {α : Type} (sz : Nat) (e : α → V) (A : List α) : V := .sl sz (A.map e)
def room (n bytes : Nat) : Prop := n ≤ 9223372036854775807 ∧ n * bytes ≤ 140737488355328
instance (n bytes : Nat) : Decidable (room n bytes) := inferInstanceAs (Decidable (_ ∧ _))

def Z8 (P : Program) (f : Nat) : Option (MC × List RS) := match P.funcs[f]? with
  | some fn => match fn.body with
    | some c => match a2w P ⟨fn.ntmps, true⟩ c, a7j P fn.results.toList with
      | some m, some r => some (m, r)
      | _, _ => none
    | none => none
  | none => none
/-- The end of a body that changes its first argument. -/
def c5A (rs : List RS) (r' : R2) (rv : V) : a0P := fun e s => (e = .normal ∨ e = .ret) ∧ c2S rs r' rv s
theorem a1k {P : Program} {f : Nat} {m : MC} {rs : List RS} {r r' : R2} {ro : List V} {rv : V} {av : AV} {L : List (Nat × Root)} (hc : Z8 P f = some (m, rs)) (hfit : r.wide 64 = true) (hcl : r'.clean = true) (hp : rv.plain = true) (hpl : pl2 0 (fo []) r = (av, fo L))
    (h : ∀ N, W P N m (mkS ((0, av) :: a9N 1 ro) (fo L) 64) (c5A rs r' rv)) : a3n P f r r' ro rv := by
  unfold Z8 at hc
  split at hc
  · rename_i fn hf
    split at hc
    · rename_i c hb
      split at hc
      · rename_i m' rs' h1 h2
        simp only [Option.some.injEq, Prod.mk.injEq] at hc
        obtain ⟨rfl, rfl⟩ := hc
        have e0 : (fun _ => none : w9) = fo [] := rfl
        refine b6u hf hb h1 h2 hfit hcl hp (b9z (s := a7N r ro) (s' := mkS ((0, av) :: a9N 1 ro) (fo L) 64) (Q := c5A rs' r' rv) ?_ ?_ (Nat.le_refl _) (h _).run)
        · intro t
          simp only [mkS, a7N, e0, hpl]
          cases t with
          | zero => left; simp [fr]
          | succ t =>
            simp only [fr, Nat.succ_ne_zero, if_false, b3u, show 1 ≤ t + 1 by omega, if_true, Nat.add_sub_cancel]
            cases ro[t]? <;> simp
        · simp only [mkS, a7N, e0, hpl]
      · cases hc
    · cases hc
  · cases hc
theorem a2K {rs : List RS} {r' : R2} {rv : V} {s : St} {cv : AV} {l : List Nat} (h1 : a3u s rs = some [cv]) (h2 : snap false s 8 cv = some rv) (h3 : b5N s (s.tmps 0) = some (r', l)) (h4 : l.Nodup) (hv : rv ≠ .agg [] := by exact fun h => by cases h) : c5A rs r' rv .ret s := ⟨.inr rfl, [cv], l, h1, .inl ⟨cv, rfl, h2, hv⟩, h3, h4⟩
section
variable {α R : Type}
theorem y2 {p : Prop} [Decidable p] {x : Option R} {r : R} (h : need p x = some r) : p ∧ x = some r := by
  unfold need at h
  split at h
  · exact ⟨by assumption, h⟩
  · cases h
theorem y1 {p : Prop} [Decidable p] {x : Option R} (h : p) : need p x = x := if_pos h
theorem B9 {L : List α} {n : Int} {v : α} (h : ix L n = some v) : 0 ≤ n ∧ L[n.toNat]? = some v := by
  unfold ix at h
  split at h
  · exact ⟨by assumption, h⟩
  · cases h
theorem c8A {L : List α} {n : Int} {v : α} (h : ix L n = some v) : n.toNat < L.length := (List.getElem?_eq_some_iff.1 (B9 h).2).1
theorem c1y {L : List α} {n : Nat} : ix L (n : Int) = L[n]? := by simp [ix]
theorem A2 {β : Type} {x : Option α} {f : α → Option β} {r : β} (h : x.bind f = some r) : ∃ a, x = some a ∧ f a = some r := Option.bind_eq_some_iff.1 h
end

section
variable {P : Program} {N : Fr} {s s1 : St} {Q : a0P} {K : St → Prop} {ρ : Type} {r : ρ}

theorem y5 {S : Type} {x : MC} (body : (S → Option ρ) → S → Option ρ) (st : S → St) {s0 : S} (h0 : loop body s0 = some r)
    (round : ∀ (k : S → Option ρ) (s : S), body k s = some r → W P N x (st s) (a3T (fun s' => Aw N s' (fun s2 => ∃ t, s2 = st t ∧ k t = some r)) Q)) : W P N (.loop x) (st s0) Q := by
  refine c5H (ι := {p : Nat × S // iter body p.1 p.2 = some r}) (fun p => st p.1.2) (fun p => p.1.1) ⟨(lim, s0), h0⟩ rfl ?_
  rintro ⟨⟨n, s⟩, h⟩
  cases n with
  | zero => cases h
  | succ n =>
    refine c5G (round (iter body n) s h) ?_
    intro e s' h'
    cases e <;> first
      | exact h'
      | (intro w0 D0 a w hs
         obtain ⟨s2, ⟨t, h1, h2⟩, h3⟩ := h' w0 D0 a w hs
         exact ⟨s2, ⟨⟨(n, t), h2⟩, h1, Nat.lt_succ_self n⟩, h3⟩)

theorem c4p {x : X} {y z : MC} {b : Bool} {A B : Option ρ} (hF : (bif b then A else B) = some r) (hb : s.get x = .val none (.bool b)) (h1 : A = some r → W P N y s Q) (h2 : B = some r → W P N z s Q) : W P N (.cond x y z) s Q := by
  cases b
  · exact H2 hb (h2 hF)
  · exact B5 hb (h1 hF)

section
variable {b n i nn id : Nat} {l : List (Nat × AV)} {o ob : w9} {L : List (Nat × Root)} {g : Option (Nat × Bool)} {ll : List (Nat × MI)}

theorem b9M {l : List (Nat × AV)} {t : Nat} {v : AV} (h : fr l t = v) : fr ((t, v) :: l) = fr l := by
  funext q
  by_cases e : q = t
  · subst e; simp [fr, h]
  · simp [fr, e]
theorem p5 {bv : Bool} {A B : Option ρ} (t : Nat) (hF : (bif bv then A else B) = some r) (hb : fr l t = .val none (.bool bv)) (h1 : A = some r → R P b ll nn (mkS ((t, AB true) :: l) o n) K) (h2 : B = some r → R P b ll nn (mkS ((t, AB false) :: l) o n) K) : R P b ll nn (mkS l o n) K := by
  cases bv
  · have h := h2 hF
    have e : mkS ((t, AB false) :: l) o n = mkS l o n := by unfold mkS; rw [b9M hb]
    rw [e] at h; exact h
  · have h := h1 hF
    have e : mkS ((t, AB true) :: l) o n = mkS l o n := by unfold mkS; rw [b9M hb]
    rw [e] at h; exact h
theorem qp {k : Bool} {d : Nat} {m : MO} (av : AV) (he : ev (mkS l o n) m = some av) (h : R P b ll nn (mkS ((d, av) :: l) o n) K) :
    R P b ((i, ⟨some d, none, .p k m⟩) :: ll) nn (mkS l o n) K := r_p he h
theorem qg {k : Bool} {d t : Nat} {c : Bool} {m : MO} (av : AV) (hg : fr l t = .val none (.bool c)) (he : ev (mkS l o n) m = some av) (h : R P b ll nn (mkS ((d, av) :: l) o n) K) :
    R P b ((i, ⟨some d, some (t, c), .p k m⟩) :: ll) nn (mkS l o n) K := d0c hg he h
theorem qn {d t : Nat} {c : Bool} {m : AO} (hg : fr l t = .val none (.bool (!c))) (h : R P b ll nn (mkS ((d, .undef) :: l) o n) K) :
    R P b ((i, ⟨some d, some (t, c), m⟩) :: ll) nn (mkS l o n) K := c8Z hg h
theorem qu {d t : Nat} {c : Bool} {m : AO} (hg : fr l t = .undef) (h : R P b ll nn (mkS ((d, .undef) :: l) o n) K) :
    R P b ((i, ⟨some d, some (t, c), m⟩) :: ll) nn (mkS l o n) K := c9N hg h
theorem qf {d : Nat} {m : FO} (av : AV) (L' : List (Nat × Root)) (he : eff (mkS l (fo L) n) (b + 64 * i) m = some (av, fo L')) (h : R P b ll nn (mkS ((d, av) :: l) (fo L') n) K) :
    R P b ((i, ⟨some d, none, .f m⟩) :: ll) nn (mkS l (fo L) n) K := r_f he h
theorem qf0 {m : FO} (av : AV) (L' : List (Nat × Root)) (he : eff (mkS l (fo L) n) (b + 64 * i) m = some (av, fo L')) (h : R P b ll nn (mkS l (fo L') n) K) :
    R P b ((i, ⟨none, none, .f m⟩) :: ll) nn (mkS l (fo L) n) K := c9l he h
theorem qfg {d t : Nat} {c : Bool} {m : FO} (av : AV) (L' : List (Nat × Root)) (hg : fr l t = .val none (.bool c)) (he : eff (mkS l (fo L) n) (b + 64 * i) m = some (av, fo L')) (h : R P b ll nn (mkS ((d, av) :: l) (fo L') n) K) :
    R P b ((i, ⟨some d, some (t, c), .f m⟩) :: ll) nn (mkS l (fo L) n) K := c9q hg he h
theorem qc {k : Bool} {d f : Nat} {xs : List X} {Vs : List V} {res : RV} (av : AV) (L' : List (Nat × Root)) (ln : Bool) (hc : Con P f Vs res) (hok : a1W P f = true) (ht : trav (snap ln (mkS l (fo L) n) 8) (xs.map (mkS l (fo L) n).get) = some Vs) (hp : plV (b + 64 * i) (fo L) res = (av, fo L'))
    (h : R P b ll nn (mkS ((d, av) :: l) (fo L') n) K) (hfit : res.fits = true := by rfl) (hcl : ln = true → res.clean = true := by first | (intro h; cases h; done) | (intro _; rfl)) :
    R P b ((i, ⟨some d, none, .call k f xs⟩) :: ll) nn (mkS l (fo L) n) K := r_c ln hc hok ht hp h hfit hcl
theorem qcg {k : Bool} {d f t : Nat} {c : Bool} {xs : List X} {Vs : List V} {res : RV} (av : AV) (L' : List (Nat × Root)) (ln : Bool) (hg : fr l t = .val none (.bool c)) (hc : Con P f Vs res) (hok : a1W P f = true) (ht : trav (snap ln (mkS l (fo L) n) 8) (xs.map (mkS l (fo L) n).get) = some Vs) (hp : plV (b + 64 * i) (fo L) res = (av, fo L'))
    (h : R P b ll nn (mkS ((d, av) :: l) (fo L') n) K) (hfit : res.fits = true := by rfl) (hcl : ln = true → res.clean = true := by first | (intro h; cases h; done) | (intro _; rfl)) :
    R P b ((i, ⟨some d, some (t, c), .call k f xs⟩) :: ll) nn (mkS l (fo L) n) K := c9P ln hg hc hok ht hp h hfit hcl
theorem qcv {d f : Nat} {x : X} {xs : List X} {caps : List AV} {Vs : List V} {res : RV} (av : AV) (L' : List (Nat × Root)) (ln : Bool) (hx : b3U (mkS l (fo L) n) ((mkS l (fo L) n).get x) = some (f, caps)) (hc : Con P f Vs res) (hok : a1W P f = true) (ht : trav (snap ln (mkS l (fo L) n) 8) (xs.map (mkS l (fo L) n).get ++ caps) = some Vs) (hp : plV (b + 64 * i) (fo L) res = (av, fo L'))
    (h : R P b ll nn (mkS ((d, av) :: l) (fo L') n) K) (hfit : res.fits = true := by rfl) (hcl : ln = true → res.clean = true := by first | (intro h; cases h; done) | (intro _; rfl)) :
    R P b ((i, ⟨some d, none, .callv x xs⟩) :: ll) nn (mkS l (fo L) n) K := c9f ln hx hc hok ht hp h hfit hcl
theorem T7 {ls : List Nat} {L : List (Nat × Root)} : a5x ls (fo L) = fo (L.map fun p => (p.1, a2R ls p.2)) := by
  funext q
  induction L with
  | nil => rfl
  | cons p L ih =>
    obtain ⟨k, r⟩ := p
    simp only [a5x, fo, List.map_cons] at ih ⊢
    by_cases e : q = k
    · simp [e]
    · simp only [e, if_false]; exact ih
theorem b9D {α : Type} {e : α → V} {A : List α} {j : Nat} {a : α} (h : A[j]? = some a) : (A.map e)[j]? = some (e a) := by rw [List.getElem?_map, h]; rfl
/-- A call that changes its first argument. -/
def b0j (l : List Nat) : List (Nat × AV) → List (Nat × AV)
  | [] => []
  | (t, c) :: fs => (t, a0N l c) :: b0j l fs
attribute [simp] b0j a0N Y3 a2R
theorem b9q (ls : List Nat) : ∀ (l : List (Nat × AV)) (t : Nat), fr (b0j ls l) t = a0N ls (fr l t)
  | [], t => by simp [b0j, fr, a0N]
  | (k, c) :: l, t => by
    simp only [b0j, fr]
    by_cases e : t = k
    · simp [e]
    · simp only [e, if_false]; exact b9q ls l t
theorem b6B {ls : List Nat} {l : List (Nat × AV)} {o : w9} {n : Nat} : c0O ls (mkS l o n) = mkS (b0j ls l) o n := by
  unfold c0O mkS
  congr 1
  funext t
  exact (b9q ls l t).symm
theorem qm {d f : Nat} {x : X} {xs : List X} {ro : List V} {rv : V} {r r' : R2} {ls : List Nat} {l' : List (Nat × AV)} (L' : List (Nat × Root)) (hc : a3n P f r r' ro rv) (hok : a1W P f = true) (ht : a0L (mkS l (fo L) n) ((mkS l (fo L) n).get x) = some (r, ls)) (hn : ls.Nodup) (hlk : a1x r r') (hp : rv.plain = true)
    (ha : trav (snap false (mkS l (fo L) n) 8) (xs.map (mkS l (fo L) n).get) = some ro) (hl : b0j ls l = l') (ho : Z5 (a5x ls (fo L)) ((mkS l (fo L) n).get x) r' = fo L') (h : R P b ll nn (mkS ((d, .val none rv) :: l') (fo L') n) K) (hv : yav rv = .val none rv := by rfl) :
    R P b ((i, ⟨some d, none, .call true f (x :: xs)⟩) :: ll) nn (mkS l (fo L) n) K := by
  subst hl
  refine a1u (s1 := mkS ((d, .val none rv) :: b0j ls l) (fo L') n) (.inr (.inr ⟨rfl, hok, .inl ⟨ro, rv, ha, hp, .inl ⟨r, ls, r', ht, hn, hlk, hc, ?_⟩⟩⟩)) h
  rw [a6w, ho, b6B, hv, put_mkS]
theorem qm1 {d f : Nat} {x : X} {xs : List X} {ro : List V} {r r' : R2} {ls : List Nat} {l' : List (Nat × AV)} (L' : List (Nat × Root)) (hc : a3n P f r r' ro (.agg [])) (hok : a1W P f = true) (ht : a0L (mkS l (fo L) n) ((mkS l (fo L) n).get x) = some (r, ls)) (hn : ls.Nodup) (hlk : a1x r r')
    (ha : trav (snap false (mkS l (fo L) n) 8) (xs.map (mkS l (fo L) n).get) = some ro) (hl : b0j ls l = l') (ho : Z5 (a5x ls (fo L)) ((mkS l (fo L) n).get x) r' = fo L') (h : R P b ll nn (mkS ((d, .undef) :: l') (fo L') n) K) :
    R P b ((i, ⟨some d, none, .call true f (x :: xs)⟩) :: ll) nn (mkS l (fo L) n) K := by
  subst hl
  refine a1u (s1 := mkS ((d, .undef) :: b0j ls l) (fo L') n) (.inr (.inr ⟨rfl, hok, .inl ⟨ro, .agg [], ha, rfl, .inl ⟨r, ls, r', ht, hn, hlk, hc, ?_⟩⟩⟩)) h
  rw [a6w, ho, b6B]
  exact put_mkS.symm
/-- A call that uses up its first argument. -/
theorem qX {d f r off len sz : Nat} {own : Bool} {A M : List V} {x : X} {xs : List X} {ro : List V} {res : RV} (av : AV) (L' : List (Nat × Root)) (ln : Bool) (hx : (mkS l (fo L) n).get x = .sl r off len) (hr : fo L r = some (.row own sz A)) (hM : (A.drop off).take len = M) (hc : c1m P f own sz M ro res) (hok : a1W P f = true)
    (ht : trav (snap ln (mkS l (fo ((r, .dead) :: L)) n) 8) (xs.map (mkS l (fo L) n).get) = some ro) (hp : plV (b + 64 * i) (fo ((r, .dead) :: L)) res = (av, fo L'))
    (h : R P b ll nn (mkS ((d, av) :: l) (fo L') n) K) (hfit : res.fits = true := by rfl) (hcl : ln = true → res.clean = true := by first | (intro h; cases h; done) | (intro _; rfl)) :
    R P b ((i, ⟨some d, none, .call true f (x :: xs)⟩) :: ll) nn (mkS l (fo L) n) K := by
  subst hM
  refine a1u (s1 := mkS ((d, av) :: l) (fo L') n) (.inr (.inr ⟨rfl, hok, .inr (.inl ⟨r, off, len, own, sz, A, ro, res, ln, hx, hr, ?_, hc, hfit, hcl, ?_⟩)⟩)) h
  · have e : b9T (mkS l (fo L) n) r = mkS l (fo ((r, .dead) :: L)) n := by unfold b9T mkS; rw [a7T]
    rw [e]; exact ht
  · show _ = put _ _ (plV _ (upd (fo L) r (some .dead)) res).1 (plV _ (upd (fo L) r (some .dead)) res).2
    rw [a7T, hp]
    exact put_mkS.symm
theorem c0t {α : Type} {e : α → V} {A : List α} {m : Nat} (hm : m = A.length) : ((A.map e).drop 0).take m = A.map e := by
  subst hm; rw [List.drop_zero, List.take_of_length_le (by simp)]
/-- .. handed a slice that lies in an element of an own row: load, a move, call. -/
theorem c7E {d d1 d2 f i1 i2 : Nat} {x y : X} {xs : List X} {ro : List V} {rv : V} {r j f0 m sz z : Nat} {A : List V} {e0 : V} {T T' : List V} {v1 : AV} {l' : List (Nat × AV)} (L' : List (Nat × Root)) (hx : (mkS l (fo L) n).get x = .ptr r j f0) (hr : fo L r = some (.row true sz A)) (hi : A[j]? = some e0) (hf : e0.cells[f0]? = some (.sl z T))
    (hy : ev (mkS ((d1, .bad) :: l) (fo L) n) (.mv y) = some v1) (hne : (d1 == d2) = false) (hc : a3n P f (.one (.row true z T)) (.one (.row true z T')) ro rv) (hok : a1W P f = true) (hlen : T'.length = T.length) (hp : rv.plain = true)
    (ha : trav (snap false (mkS ((d2, v1) :: (d1, .bad) :: l) (fo L) n) 8) (xs.map (mkS ((d2, v1) :: (d1, .bad) :: l) (fo L) n).get) = some ro) (hl : b0j [r] ((d2, v1) :: (d1, .bad) :: l) = l') (ho : upd (a5x [r] (fo L)) r (some (.row true sz (A.set j (patch e0 f0 [.sl z T'])))) = fo L')
    (h : R P b ll nn (mkS ((d, .val none rv) :: l') (fo L') n) K) (hv : yav rv = .val none rv := by rfl) :
    R P b ((i1, ⟨some d1, none, .p true (.ld x m false)⟩) :: (i2, ⟨some d2, none, .p true (.mv y)⟩) :: (i, ⟨some d, none, .call true f (.t d1 :: xs)⟩) :: ll) nn (mkS l (fo L) n) K := by
  subst hl
  have hne' : ¬ d1 = d2 := by simpa using hne
  refine a1u (s1 := { put (mkS l (fo L) n) (some d1) .bad (fo L) with lk := some (d1, r, j, f0) }) (.inr (.inr ⟨rfl, d1, rfl, .inr ⟨x, m, r, j, f0, sz, A, e0, z, T, rfl, hx, hr, hi, hf, rfl⟩⟩)) ?_
  refine a1u (s1 := putk { put (mkS l (fo L) n) (some d1) .bad (fo L) with lk := some (d1, r, j, f0) } d2 v1) (.inr (.inr ⟨rfl, d2, rfl, .inl ⟨v1, ?_, rfl⟩⟩)) ?_
  · have e : ({ put (mkS l (fo L) n) (some d1) .bad (fo L) with lk := some (d1, r, j, f0) } : St).get y = (mkS ((d1, .bad) :: l) (fo L) n).get y := by
      cases y with
      | t t =>
        show upd (fr l) d1 .bad t = fr ((d1, .bad) :: l) t
        simp only [fr, upd]
      | c v => rfl
      | f g => rfl
    simp only [ev] at hy ⊢
    rw [e]; exact hy
  have es : (putk { put (mkS l (fo L) n) (some d1) .bad (fo L) with lk := some (d1, r, j, f0) } d2 v1) = { mkS ((d2, v1) :: (d1, .bad) :: l) (fo L) n with lk := some (d1, r, j, f0) } := by
    unfold putk put mkS
    simp only [hne', if_false]
    congr 1
  rw [es]
  refine a1u (s1 := mkS ((d, .val none rv) :: b0j [r] ((d2, v1) :: (d1, .bad) :: l)) (fo L') n) (.inr (.inr ⟨rfl, hok, .inl ⟨ro, rv, ?_, hp, .inr ⟨d1, r, j, f0, sz, A, e0, z, T, T', rfl, rfl, hr, hi, hf, hc, hlen, ?_⟩⟩⟩)) h
  · exact ha
  · have e2 : c0O [r] ({ mkS ((d2, v1) :: (d1, .bad) :: l) (fo L) n with lk := some (d1, r, j, f0) } : St) = { mkS (b0j [r] ((d2, v1) :: (d1, .bad) :: l)) (fo L) n with lk := some (d1, r, j, f0) } := by
      rw [← b6B]; rfl
    rw [e2, hv]
    show _ = put _ _ _ (upd (a5x [r] (fo L)) r _)
    rw [ho]
    unfold put mkS
    congr 1
end

section
variable {s : St} {α : Type} {e : α → V} {A : List α} {n : Int} {k : IntKind} {v : α} {x i : X} {sz : Nat}
theorem j4 (hx : s.get x = .val none (.sl sz (A.map e))) (hi : s.get i = .val none (.int k n)) (h : ix A n = some v) {cs : List V} (hc : (e v).cells = cs) : ev s (.iad x i sz) = some (.val none (.ptr cs)) := by
  obtain ⟨h0, h1⟩ := B9 h
  simp [ev, hx, hi, h0, h1, hc]
theorem B1 {r m : Nat} {own : Bool} (hx : s.get x = .sl r 0 m) (hm : m = A.length) (hr : s.objs r = some (.row own sz (A.map e))) (hi : s.get i = .val none (.int k n)) (h : ix A n = some v) : ev s (.iad x i sz) = some (.ptr r n.toNat 0) := by
  obtain ⟨h0, h1⟩ := B9 h
  subst hm
  have := c8A h
  simp [ev, hx, hi, h0, h1, hr, this]
theorem b2w {r j f m : Nat} {ag own : Bool} {u : V} {av : AV} (hx : s.get x = .ptr r j f) (hr : s.objs r = some (.row own sz (A.map e))) (h : A[j]? = some v) (hu : ldV (e v).cells f m ag = some u) (hm : mk (some r) u = av) : ev s (.ld x m ag) = some av := by
  simp only [ev, hx, hr, List.getElem?_map, h, Option.map_some, hu, hm]
def a0d (L : List Int) : List UInt8 := L.map fun n => UInt8.ofNat n.toNat
theorem a8O : ∀ L : List Int, a3k (L.map (V.int .u8)) = some (a0d L)
  | [] => rfl
  | x :: L => by simp only [List.map_cons, a3k, a8O L]; rfl
theorem b7W {L : List Int} {r m : Nat} {own : Bool} (hx : s.get x = .sl r 0 m) (hm : m = L.length) (hr : s.objs r = some (.row own 1 (L.map (V.int .u8)))) : ev s (.bts x) = some (AS (a0d L)) := by
  subst hm
  have e1 : ((L.map (V.int .u8)).drop 0).take L.length = L.map (V.int .u8) := by rw [List.drop_zero, List.take_of_length_le (by simp)]
  simp only [ev, hx, hr, e1, if_true, a8O]
theorem j0 (hx : s.get x = .val none (.sl sz (A.map e))) : ev s (.len x) = some (AI A.length) := by
  simp only [ev, hx, St.view, List.length_map]
theorem b0b {b : List UInt8} {c : UInt8} (hx : s.get x = .val none (.str b)) (hi : s.get i = .val none (.int k n)) (h : ix b n = some c) : ev s (.ixs x i) = some (.val none (.int .u8 c.toNat)) := by
  obtain ⟨h0, h1⟩ := B9 h
  simp [ev, hx, hi, h0, h1, St.view, asI]
theorem a4n {a b : List UInt8} {y : X} (hx : s.get x = .val none (.str a)) (hy : s.get y = .val none (.str b)) (h : a.length + b.length < 9223372036854775808) : ev s (.bin .add x y) = some (.val none (.str (a ++ b))) := by
  simp [ev, hx, hy, St.view, b8u, b9c, h]
theorem c1B {a b : Int} {y : X} (hx : s.get x = .val none (.int k a)) (hy : s.get y = .val none (.int k b)) (h : b ≠ 0) : ev s (.bin .quo x y) = some (.val none (.int k (k.wrap (a.tdiv b)))) := by
  simp [ev, hx, hy, St.view, b8u, b4V, h]
theorem b6t {a b : Int} {y : X} (hx : s.get x = .val none (.int k a)) (hy : s.get y = .val none (.int k b)) (h : b ≠ 0) : ev s (.bin .rem x y) = some (.val none (.int k (a.tmod b))) := by
  simp [ev, hx, hy, St.view, b8u, b4V, h]
end

section
variable {b n i nn id : Nat} {l : List (Nat × AV)} {L : List (Nat × Root)} {ll : List (Nat × MI)} {α : Type} {e : α → V} {A B : List α} {d : Nat}
theorem a1D {l0 c0 : X} {lo c : Int} {k k' : IntKind} {z : V} {a : α} {sz bytes : Nat} (hl : (mkS l (fo L) n).get l0 = .val none (.int k lo)) (hc : (mkS l (fo L) n).get c0 = .val none (.int k' c)) (h : 0 ≤ lo ∧ lo ≤ c ∧ c ≤ 9223372036854775807 ∧ (bytes : Int) * c ≤ 281474976710656) (hz : e a = z) :
    eff (mkS l (fo L) n) id (.mks sz bytes z l0 c0) = some (.sl id 0 (List.replicate lo.toNat a).length, fo ((id, .row true sz ((List.replicate lo.toNat a).map e)) :: L)) := by
  simp only [eff, hl, hc, St.view, asI, h, and_self, if_true, a6w, a7T, List.map_replicate, hz, List.length_replicate]
theorem c2F {r sz bytes : Nat} {own fl mv : Bool} {o o2 : w9} {y : AV} (hs : a3B r o sz mv y = some (B.map e, fl, o2)) (h : room (A.length + B.length) bytes) :
    a3P id r 0 A.length own (A.map e) o y sz bytes mv = some (.sl id 0 (A ++ B).length, upd (upd o2 r (some .dead)) id (some (.row (own && fl) sz ((A ++ B).map e)))) := by
  have h1 := h.1
  have h2 := h.2
  simp only [a3P, hs, List.length_map, h1, h2, and_self, if_true, List.drop_zero, List.map_append, List.length_append]
  rw [List.take_of_length_le (by simp)]
theorem c8s {r r2 sz m : Nat} {own2 : Bool} {o : w9} (hm : m = B.length) (hr2 : o r2 = some (.row own2 sz (B.map e))) (hne : r2 ≠ r) : a3B r o sz true (.sl r2 0 m) = some (B.map e, own2, upd o r2 (some .dead)) := by
  subst hm
  simp [a3B, hr2, hne, List.take_of_length_le]
section
variable {x : Nat} {y : X} {r r2 sz bytes m m2 q : Nat} {own own2 mv : Bool}
theorem c2H (hx : fr l x = .sl r 0 m) (hm : m = A.length) (hr : fo L r = some (.row own sz (A.map e))) {fl : Bool} {L2 : List (Nat × Root)} {w : AV} (hy : (mkS l (fo L) n).get y = w) (hs : a3B r (fo L) sz mv w = some (B.map e, fl, fo L2)) (h : room (A.length + B.length) bytes) :
    eff (mkS l (fo L) n) id (.app (.t x) y sz bytes mv) = some (.sl id 0 (A ++ B).length, fo ((id, .row (own && fl) sz ((A ++ B).map e)) :: (r, .dead) :: L2)) := by
  subst hm
  have := c2F (id := id) (own := own) (bytes := bytes) hs h
  simp only [eff, c2p, hx, a6w, hr, hy, this, a7T, if_true]
theorem a0b (hx : fr l x = .sl r 0 m) (hm : m = A.length) (hr : fo L r = some (.row own sz (A.map e))) (hy : (mkS l (fo L) n).get y = .sl r2 0 m2) (hm2 : m2 = B.length) (hr2 : fo L r2 = some (.row own2 sz (B.map e))) (hne : r2 ≠ r) (h : room (A.length + B.length) bytes) {ow : Bool} (how : (own && own2) = ow) :
    eff (mkS l (fo L) n) id (.app (.t x) y sz bytes true) = some (.sl id 0 (A ++ B).length, fo ((id, .row ow sz ((A ++ B).map e)) :: (r, .dead) :: (r2, .dead) :: L)) := by
  subst how; exact c2H hx hm hr hy (by rw [← a7T]; exact c8s hm2 hr2 hne) h
theorem a2M {A : List α} {i : Nat} {a b : α} (h : A[i]? = some a) : (A.set i b)[i]? = some b := by
  rw [List.getElem?_set_self]; exact (List.getElem?_eq_some_iff.1 h).1
theorem D6 {xp : X} {v : X} {i f k : Nat} {a a' : α} {u : V} {fl : Bool} {L2 : List (Nat × Root)} (hx : (mkS l (fo L) n).get xp = .ptr r i f) (hr : fo L r = some (.row own sz (A.map e))) (ha : A[i]? = some a) (hv : elem (fo L) ((mkS l (fo L) n).get v) = some (u, fl, fo L2)) (hl : live (fo L2 r) = true) (hn : u.cells.length = k) (hp : patch (e a) f u.cells = e a') (hf : Nat.ble (f + k) sz = true) {ow : Bool} (how : (own && fl) = ow) :
    eff (mkS l (fo L) n) id (.st xp v k) = some (.undef, fo ((r, .row ow sz ((A.set i a').map e)) :: L2)) := by
  subst how
  have e1 : (A.map e)[i]? = some (e a) := by rw [List.getElem?_map, ha]; rfl
  have hf := Nat.le_of_ble_eq_true hf
  simp only [eff, hx, a6w, hr, e1, hv, hl, hn, hf, and_self, if_true, hp, List.map_set, a7T]
end
end
end

/-- A function that the model stands in for by its search for a byte. -/
structure d0r (P : Program) (f : FuncId) : Prop where
  h1 : P.funcs[f]?.map (fun fn => fn.name == "runtime.NumGoroutine") = some false
  h2 : P.funcs[f]?.map (fun fn => fn.body.isNone) = some true
  h3 : P.funcs[f]?.map Extern.findNext = some none
  h4 : P.funcs[f]?.map Extern.find = some (some Extern.BytealgIndexByte.indexByte)
section
variable {P : Program} {b i : Nat} {ll : List (Nat × MI)} {nn : Nat} {l : List (Nat × AV)} {n : Nat} {K : St → Prop} {L : List (Nat × Root)}
end
end Go.Ab
