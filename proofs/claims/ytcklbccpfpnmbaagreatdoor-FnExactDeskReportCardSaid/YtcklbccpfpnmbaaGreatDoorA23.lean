import Derived.Test.YtcklbccpfpnmbaaGreatDoorA22
import Derived.IntWalk
set_option linter.unusedVariables false
set_option linter.unusedSimpArgs false
namespace Go.Ab
open Go.RowKit
def b8r (P : Program) (f : Nat) : Option (MC × List RS) := match P.funcs[f]? with
 | some fn => match fn.body with
  | some c => match a2w P ⟨fn.ntmps, false⟩ c, a7j P fn.results.toList with
   | some m, some r => some (m, r)
   | _, _ => none
  | none => none
 | none => none
def c0I (rs : List RS) (res : RV) : a0P := fun e s => (e = .normal ∨ e = .ret) ∧ ∃ cs, a3u s rs = some cs ∧ b9U s cs res
def fr : List (Nat × AV) → Nat → AV
 | [], _ => .bad
 | (k, v) :: l, t => if t = k then v else fr l t
def mkS (l : List (Nat × AV)) (o : w9) (n : Nat) : St := ⟨fr l, o, n, none⟩
def fo : List (Nat × Root) → w9
 | [], _ => none
 | (k, r) :: L, t => if t = k then some r else fo L t
def a9N (k : Nat) : List V → List (Nat × AV)
 | [] => []
 | v :: vs => (k, .val none v) :: a9N (k + 1) vs
structure W (P : Program) (N : Fr) (m : MC) (s : St) (Q : a0P) : Prop where
 run : MW P N m s Q
structure R (P : Program) (b : Nat) (l : List (Nat × MI)) (n : Nat) (s : St) (K : St → Prop) : Prop where
 run : ∃ s', b4R P b l s s' ∧ K { s' with next := n }
def b3S (id : Nat) (K : St → Prop) (Q : a0P) : a0P
 | .exit id', s => if id' = id then K s else Q (.exit id') s
 | .normal, s => K s
 | e, s => Q e s
section
variable {P : Program} {N : Fr} {s s1 : St} {Q : a0P} {K : St → Prop}
theorem c1Y {s s' : St} {w0 : Base} {D0 : q9} {a : Act} {w : World} (h1 : ∀ t, s'.tmps t = s.tmps t ∨ s'.tmps t = .bad) (h2 : s'.objs = s.objs) (h3 : s.next ≤ s'.next) (h : Sim N w0 D0 s a w) (h4 : s'.lk = none := by rfl) : Sim N w0 D0 s' a w := by
 obtain ⟨E, hE, hn⟩ := h
 refine ⟨E, ⟨hE.good, hE.ew, by rw [hE.eo, h2], hE.size, hE.defers, fun t => ?_, hE.fix, fun t r i f h => by rw [h4] at h; cases h⟩, fun r hr => by rw [h2]; exact hn r (Nat.le_trans h3 hr)⟩
 rcases h1 t with e | e <;> rw [e]
 ·exact hE.tmps t
 ·exact .bad
theorem b9z {m : MC} {s s' : St} (h1 : ∀ t, s'.tmps t = s.tmps t ∨ s'.tmps t = .bad) (h2 : s'.objs = s.objs) (h3 : s.next ≤ s'.next) (h : MW P N m s' Q) (h4 : s'.lk = none := by rfl) : MW P N m s Q :=
 fun c hc w0 D0 a w hs => h c hc w0 D0 a w (c1Y h1 h2 h3 hs h4)
theorem b3u : ∀ (vs : List V) (k t : Nat), fr (a9N k vs) t = if k ≤ t then (match vs[t - k]? with
  | some v => .val none v
  | none => .bad) else .bad
 | [], k, t => by simp [a9N, fr]
 | v :: vs, k, t => by
  simp only [a9N, fr, b3u vs (k + 1) t]
  by_cases e : t = k
  ·subst e; simp
  ·by_cases h : k ≤ t
   ·have : t - k = (t - (k + 1)) + 1 := by omega
    simp only [e, if_false, h, if_true, show k + 1 ≤ t by omega, this]
    rfl
   ·simp only [e, if_false, h, show ¬ k + 1 ≤ t by omega]
theorem p7 {f : Nat} {m : MC} {rs : List RS} {args : List V} {res : RV} (hc : b8r P f = some (m, rs)) (h : ∀ N, W P N m (mkS (a9N 0 args) (fo []) 0) (c0I rs res)) : Con P f args res := by
 unfold b8r at hc
 split at hc
 ·rename_i fn hf
  split at hc
  ·rename_i c hb
   split at hc
   ·rename_i m' r' h1 h2
    simp only [Option.some.injEq, Prod.mk.injEq] at hc
    obtain ⟨rfl, rfl⟩ := hc
    refine b7K hf hb h1 h2 (b9z (s := start args) (s' := mkS (a9N 0 args) (fo []) 0) (Q := c0I r' res) ?_ rfl (Nat.le_refl _) (h _).run)
    intro t
    simp only [mkS, b3u, start, Nat.zero_le, if_true, Nat.sub_zero]
    split
    ·rename_i v hv; left; rw [hv]
    ·right; rfl
   ·cases hc
  ·cases hc
 ·cases hc
theorem c5u {l : List (Nat × AV)} {d : Nat} {av : AV} : upd (fr l) d av = fr ((d, av) :: l) := by
 funext t
 simp only [fr]
 by_cases e : t = d
 ·subst e; simp [j9]
 ·simp [w6 e, e]
theorem put_mkS {l : List (Nat × AV)} {o ob : w9} {n d : Nat} {av : AV} : put (mkS l o n) (some d) av ob = mkS ((d, av) :: l) ob n := by simp only [put, mkS, c5u]
theorem put_mkS0 {l : List (Nat × AV)} {o ob : w9} {n : Nat} {av : AV} : put (mkS l o n) none av ob = mkS l ob n := rfl
def keep (l : List (Nat × AV)) : List Nat → List (Nat × AV)
 | [] => []
 | k :: ks => (k, fr l k) :: keep l ks
theorem g9 (h : Q .normal s) : W P N .skip s Q := ⟨c3K h⟩
theorem j8 (h : Q .ret s) : W P N .ret s Q := ⟨c5N h⟩
theorem z8 {id : Nat} (h : Q (.exit id) s) : W P N (.exit id) s Q := ⟨c4a h⟩
theorem y4 {ms : List MI} (b n : Nat) (hb : s.next = b) (hn : b + 64 * ms.length = n) (h : R P b (enum 0 ms) n s (fun s => Q .normal s)) : W P N (.reg ms) s Q := by
 subst hb; subst hn
 obtain ⟨s', h1, h2⟩ := h.run
 exact ⟨c6q h1 h2⟩
theorem i8 {x y : MC} (h : W P N x s (a3T (fun s => W P N y s Q) Q)) : W P N (.seq x y) s Q :=
 ⟨c3g (b6c h.run fun e s h => by cases e <;> first | exact h | exact h.run)⟩
theorem c0e {ms : List MI} {y : MC} (b n : Nat) (hb : s.next = b) (hn : b + 64 * ms.length = n) (h : R P b (enum 0 ms) n s (fun s => W P N y s Q)) : W P N (.seq (.reg ms) y) s Q :=
 i8 (y4 b n hb hn h)
theorem c5G {m : MC} {Q' : a0P} (h : W P N m s Q) (hq : ∀ e s, Q e s → Q' e s) : W P N m s Q' := ⟨b6c h.run hq⟩
theorem B5 {x : X} {y z : MC} (hb : s.get x = .val none (.bool true)) (h : W P N y s Q) : W P N (.cond x y z) s Q := ⟨b9F hb h.run⟩
theorem H2 {x : X} {y z : MC} (hb : s.get x = .val none (.bool false)) (h : W P N z s Q) : W P N (.cond x y z) s Q := ⟨b9F hb h.run⟩
theorem j7 {id : Nat} {x : MC} (h : W P N x s (b3S id (fun s => Q .normal s) Q)) : W P N (.block id x) s Q :=
 ⟨c2U (b6c h.run fun e s h => by
  cases e <;> exact h)⟩
theorem f5 (h : K s) : a3T K Q .normal s := h
theorem f7 (h : Q .ret s) : a3T K Q .ret s := h
theorem j5 {id : Nat} (h : Q (.exit id) s) : a3T K Q (.exit id) s := h
theorem p6 {id : Nat} (h : K s) : b3S id K Q .normal s := h
theorem g7 {id : Nat} (h : Q .ret s) : b3S id K Q .ret s := h
theorem s9 {id : Nat} (h : K s) : b3S id K Q (.exit id) s := by simp [b3S, h]
theorem a2H {rs : List RS} {res : RV} {cs : List AV} (h1 : a3u s rs = some cs) (h2 : b9U s cs res) : c0I rs res .ret s := ⟨.inr rfl, cs, h1, h2⟩
section
variable {b n i nn : Nat} {l : List (Nat × AV)} {o ob : w9} {g : Option (Nat × Bool)} {ll : List (Nat × MI)} {av : AV}
theorem d9 (h : K (mkS l o nn)) : R P b [] nn (mkS l o n) K := ⟨_, rfl, h⟩
theorem a1u {m : MI} {s s1 : St} (h1 : a3I P s (b + 64 * i) m s1) (h2 : R P b ll nn s1 K) : R P b ((i, m) :: ll) nn s K := by
 obtain ⟨s', h3, h4⟩ := h2.run
 exact ⟨s', ⟨s1, h1, h3⟩, h4⟩
theorem r_p {d : Nat} {k : Bool} {m : MO} (he : ev (mkS l o n) m = some av) (h : R P b ll nn (mkS ((d, av) :: l) o n) K) :
  R P b ((i, ⟨some d, none, .p k m⟩) :: ll) nn (mkS l o n) K := a1u (.inr (.inl ⟨rfl, av, o, ⟨he, rfl⟩, put_mkS.symm⟩)) h
theorem d0c {d t : Nat} {c k : Bool} {m : MO} (hg : fr l t = .val none (.bool c)) (he : ev (mkS l o n) m = some av) (h : R P b ll nn (mkS ((d, av) :: l) o n) K) :
  R P b ((i, ⟨some d, some (t, c), .p k m⟩) :: ll) nn (mkS l o n) K := a1u (.inr (.inl ⟨by simp [wants, mkS, hg], av, o, ⟨he, rfl⟩, put_mkS.symm⟩)) h
theorem r_f {d : Nat} {m : FO} (he : eff (mkS l o n) (b + 64 * i) m = some (av, ob)) (h : R P b ll nn (mkS ((d, av) :: l) ob n) K) :
  R P b ((i, ⟨some d, none, .f m⟩) :: ll) nn (mkS l o n) K := a1u (.inr (.inl ⟨rfl, av, ob, he, put_mkS.symm⟩)) h
theorem c9l {m : FO} (he : eff (mkS l o n) (b + 64 * i) m = some (av, ob)) (h : R P b ll nn (mkS l ob n) K) :
  R P b ((i, ⟨none, none, .f m⟩) :: ll) nn (mkS l o n) K := a1u (.inr (.inl ⟨rfl, av, ob, he, put_mkS0.symm⟩)) h
theorem c9q {d t : Nat} {c : Bool} {m : FO} (hg : fr l t = .val none (.bool c)) (he : eff (mkS l o n) (b + 64 * i) m = some (av, ob)) (h : R P b ll nn (mkS ((d, av) :: l) ob n) K) :
  R P b ((i, ⟨some d, some (t, c), .f m⟩) :: ll) nn (mkS l o n) K := a1u (.inr (.inl ⟨by simp [wants, mkS, hg], av, ob, he, put_mkS.symm⟩)) h
theorem c8Z {d t : Nat} {c : Bool} {m : AO} (hg : fr l t = .val none (.bool (!c))) (h : R P b ll nn (mkS ((d, .undef) :: l) o n) K) :
  R P b ((i, ⟨some d, some (t, c), m⟩) :: ll) nn (mkS l o n) K := a1u (.inl ⟨by cases c <;> simp [wants, mkS, hg], put_mkS.symm⟩) h
theorem c9N {d t : Nat} {c : Bool} {m : AO} (hg : fr l t = .undef) (h : R P b ll nn (mkS ((d, .undef) :: l) o n) K) :
  R P b ((i, ⟨some d, some (t, c), m⟩) :: ll) nn (mkS l o n) K := a1u (.inl ⟨by simp [wants, mkS, hg], put_mkS.symm⟩) h
theorem r_c {k : Bool} {d f : Nat} {xs : List X} {Vs : List V} {res : RV} (ln : Bool) (hc : Con P f Vs res) (hok : a1W P f = true) (ht : trav (snap ln (mkS l o n) 8) (xs.map (mkS l o n).get) = some Vs) (hp : plV (b + 64 * i) o res = (av, ob))
  (h : R P b ll nn (mkS ((d, av) :: l) ob n) K) (hfit : res.fits = true := by rfl) (hcl : ln = true → res.clean = true := by first | (intro h; cases h; done) | (intro _; rfl)) :
  R P b ((i, ⟨some d, none, .call k f xs⟩) :: ll) nn (mkS l o n) K := by
 refine a1u (s1 := mkS ((d, av) :: l) ob n) (.inr (.inl ⟨rfl, _, _, ⟨ln, Vs, res, .inl ⟨hok, hc⟩, ht, trivial, hfit, hcl, rfl, rfl⟩, ?_⟩)) h
 have : (mkS l o n).objs = o := rfl
 rw [this, hp]
 exact put_mkS.symm
theorem c9P {k : Bool} {d f t : Nat} {c : Bool} {xs : List X} {Vs : List V} {res : RV} (ln : Bool) (hg : fr l t = .val none (.bool c)) (hc : Con P f Vs res) (hok : a1W P f = true) (ht : trav (snap ln (mkS l o n) 8) (xs.map (mkS l o n).get) = some Vs) (hp : plV (b + 64 * i) o res = (av, ob))
  (h : R P b ll nn (mkS ((d, av) :: l) ob n) K) (hfit : res.fits = true := by rfl) (hcl : ln = true → res.clean = true := by first | (intro h; cases h; done) | (intro _; rfl)) :
  R P b ((i, ⟨some d, some (t, c), .call k f xs⟩) :: ll) nn (mkS l o n) K := by
 refine a1u (s1 := mkS ((d, av) :: l) ob n) (.inr (.inl ⟨by simp [wants, mkS, hg], _, _, ⟨ln, Vs, res, .inl ⟨hok, hc⟩, ht, trivial, hfit, hcl, rfl, rfl⟩, ?_⟩)) h
 have : (mkS l o n).objs = o := rfl
 rw [this, hp]
 exact put_mkS.symm
theorem c9f {d f : Nat} {x : X} {xs : List X} {caps : List AV} {Vs : List V} {res : RV} (ln : Bool) (hx : b3U (mkS l o n) ((mkS l o n).get x) = some (f, caps)) (hc : Con P f Vs res) (hok : a1W P f = true) (ht : trav (snap ln (mkS l o n) 8) (xs.map (mkS l o n).get ++ caps) = some Vs) (hp : plV (b + 64 * i) o res = (av, ob))
  (h : R P b ll nn (mkS ((d, av) :: l) ob n) K) (hfit : res.fits = true := by rfl) (hcl : ln = true → res.clean = true := by first | (intro h; cases h; done) | (intro _; rfl)) :
  R P b ((i, ⟨some d, none, .callv x xs⟩) :: ll) nn (mkS l o n) K := by
 refine a1u (s1 := mkS ((d, av) :: l) ob n) (.inr (.inl ⟨rfl, _, _, ⟨f, caps, hx, ln, Vs, res, .inl ⟨hok, hc⟩, ht, trivial, hfit, hcl, rfl, rfl⟩, ?_⟩)) h
 have : (mkS l o n).objs = o := rfl
 rw [this, hp]
 exact put_mkS.symm
end
theorem c8r {k : Nat} {v : AV} {l : List (Nat × AV)} : fr ((k, v) :: l) k = v := by simp [fr]
theorem c7n {t k : Nat} {v : AV} {l : List (Nat × AV)} (h : (t == k) = false) : fr ((k, v) :: l) t = fr l t := by
 have : t ≠ k := by simpa using h
 simp [fr, this]
theorem c8d {k : Nat} {r : Root} {L : List (Nat × Root)} : fo ((k, r) :: L) k = some r := by simp [fo]
theorem c7C {t k : Nat} {r : Root} {L : List (Nat × Root)} (h : (t == k) = false) : fo ((k, r) :: L) t = fo L t := by
 have : t ≠ k := by simpa using h
 simp [fo, this]
theorem c6u {t : Nat} : fo [] t = none := rfl
theorem a7T {L : List (Nat × Root)} {k : Nat} {r : Root} : upd (fo L) k (some r) = fo ((k, r) :: L) := by
 funext t
 simp only [fo]
 by_cases e : t = k
 ·subst e; simp [j9]
 ·simp [w6 e, e]
attribute [simp ↓] c8d c7C c6u
attribute [simp] a7T
theorem c2p {l : List (Nat × AV)} {o : w9} {n t : Nat} : (mkS l o n).get (.t t) = fr l t := rfl
theorem c4g {l : List (Nat × AV)} {o : w9} {n : Nat} {v : V} : (mkS l o n).get (.c v) = .val none v := rfl
theorem c3y {l : List (Nat × AV)} {o : w9} {n f : Nat} : (mkS l o n).get (.f f) = .fn f [] := rfl
theorem c3Y {l : List (Nat × AV)} {o : w9} {n : Nat} : (mkS l o n).tmps = fr l := rfl
theorem a6w {l : List (Nat × AV)} {o : w9} {n : Nat} : (mkS l o n).objs = o := rfl
theorem c3n {l : List (Nat × AV)} {o : w9} {n : Nat} : (mkS l o n).next = n := rfl
theorem c6H {x : Int} (h : -9223372036854775808 ≤ x ∧ x ≤ 9223372036854775807) : IntKind.wrap .i64 x = x := IntWalk.i64_in x h
section
variable {k : IntKind} {x y : Int} {a b : List UInt8}
theorem c7h : b4V .eql k x y = some (.bool (decide (x = y))) := rfl
theorem c8w : b4V .neq k x y = some (.bool (decide (x ≠ y))) := rfl
theorem c7L : b4V .lss k x y = some (.bool (decide (x < y))) := rfl
theorem c7S : b4V .leq k x y = some (.bool (decide (x ≤ y))) := rfl
theorem c7R : b4V .gtr k x y = some (.bool (decide (y < x))) := rfl
theorem c7b : b4V .geq k x y = some (.bool (decide (y ≤ x))) := rfl
theorem c7a : b9c .eql a b = some (.bool (decide (a = b))) := rfl
theorem c6U : b9c .neq a b = some (.bool (decide (a ≠ b))) := rfl
theorem c7Y : b9c .lss a b = some (.bool (Op.bytesLess a b)) := rfl
theorem c8p : b9c .gtr a b = some (.bool (!(Op.bytesLess a b || decide (a = b)))) := rfl
end
theorem c0n {k : IntKind} {n : Int} : V.cells (.int k n) = [(.int k n)] := rfl
theorem c4q {k : IntKind} {n : Int} : V.one (.int k n) = true := rfl
theorem b8R {k : IntKind} {n : Int} : V.scalar (.int k n) = true := rfl
theorem c0R {k : IntKind} {n : Int} : V.plain (.int k n) = true := rfl
theorem c5Q {k : IntKind} {n : Int} {src : Option Nat} : mk src (.int k n) = .val none (.int k n) := rfl
theorem b9e {b : Bool} : V.cells (.bool b) = [(.bool b)] := rfl
theorem c2s {b : Bool} : V.one (.bool b) = true := rfl
theorem b7T {b : Bool} : V.scalar (.bool b) = true := rfl
theorem b8s {b : Bool} : V.plain (.bool b) = true := rfl
theorem c3p {b : Bool} {src : Option Nat} : mk src (.bool b) = .val none (.bool b) := rfl
theorem c0c {s : List UInt8} : V.cells (.str s) = [(.str s)] := rfl
theorem c3T {s : List UInt8} : V.one (.str s) = true := rfl
theorem b8g {s : List UInt8} : V.scalar (.str s) = true := rfl
theorem c0Z {s : List UInt8} : V.plain (.str s) = true := rfl
theorem c5T {s : List UInt8} {src : Option Nat} : mk src (.str s) = .val none (.str s) := rfl
theorem c2D {z : Nat} {L : List V} : V.cells (.sl z L) = [(.sl z L)] := rfl
theorem c5F {z : Nat} {L : List V} : V.one (.sl z L) = true := rfl
theorem c0g {z : Nat} {L : List V} : V.scalar (.sl z L) = false := rfl
theorem c1U {z : Nat} {L : List V} : V.plain (.sl z L) = false := rfl
theorem c6T {z : Nat} {L : List V} {src : Option Nat} : mk src (.sl z L) = .val src (.sl z L) := rfl
theorem c0S {cs : List V} : V.cells (.ptr cs) = [(.ptr cs)] := rfl
theorem c3R {cs : List V} : V.one (.ptr cs) = true := rfl
theorem b9j {cs : List V} : V.scalar (.ptr cs) = false := rfl
theorem c0v {cs : List V} : V.plain (.ptr cs) = false := rfl
theorem c6c {cs : List V} {src : Option Nat} : mk src (.ptr cs) = .val src (.ptr cs) := rfl
theorem c2W {f : Nat} {cs : List V} : V.cells (.fn f cs) = [(.fn f cs)] := rfl
theorem c5y {f : Nat} {cs : List V} : V.one (.fn f cs) = true := rfl
theorem c0b {f : Nat} {cs : List V} : V.scalar (.fn f cs) = false := rfl
theorem c2g {f : Nat} {cs : List V} : V.plain (.fn f cs) = false := rfl
theorem c8l {f : Nat} {cs : List V} {src : Option Nat} : mk src (.fn f cs) = .val src (.fn f cs) := rfl
theorem c3E {v : V} : mk none v = .val none v := by unfold mk; split <;> rfl
theorem c6F {cs : List V} {src : Option Nat} : mk src (.agg cs) = if cs.all V.scalar = true then .val none (.agg cs) else .val src (.agg cs) := rfl
theorem c0k {cs : List V} : V.cells (.agg cs) = cs := rfl
theorem c3O {cs : List V} : V.one (.agg cs) = false := rfl
theorem c0N {cs : List V} : V.plain (.agg cs) = cs.all V.scalar := rfl
attribute [simp] c0n c4q b8R c0R c5Q b9e c2s b7T b8s c3p c0c c3T b8g c0Z c5T c2D c5F c0g c1U c6T c0S c3R b9j c0v c6c c2W c5y c0b c2g c8l c3E c6F c0k c3O c0N
attribute [simp] c7h c8w c7L c7S c7R c7b c7a c6U c7Y c8p
attribute [simp ↓] c8r c7n c2p c4g c3y a6w c3n c3Y
attribute [simp] a5j a5T b1p ev eff St.view b8u a9N ldV asI bnd live a1T absorb a2Q a0I elem elems b9x b0o roL a3B a3P a5U a4Y zcells zc1 snap trav plV pl2 a7K pl1 a7O b7J b1a b5N a4J b8S a3u patch b3U
end
end Go.Ab
