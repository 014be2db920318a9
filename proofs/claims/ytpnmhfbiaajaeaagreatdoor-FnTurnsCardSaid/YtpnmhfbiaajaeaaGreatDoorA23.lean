import Derived.Test.YtpnmhfbiaajaeaaGreatDoorA22
import Derived.IntWalk
set_option linter.unusedVariables false
set_option linter.unusedSimpArgs false
namespace Go.Ab
open Go.RowKit
def compFn (P : Program) (f : Nat) : Option (MC × List RS) := match P.funcs[f]? with
 | some fn => match fn.body with
  | some c => match compC P ⟨fn.ntmps, false⟩ c, compR P fn.results.toList with
   | some m, some r => some (m, r)
   | _, _ => none
  | none => none
 | none => none
def EndQ (rs : List RS) (res : RV) : Post0 := fun e s => (e = .normal ∨ e = .ret) ∧ ∃ cs, resAV s rs = some cs ∧ Gives s cs res
def fr : List (Nat × AV) → Nat → AV
 | [], _ => .bad
 | (k, v) :: l, t => if t = k then v else fr l t
def mkS (l : List (Nat × AV)) (o : Objs) (n : Nat) : St := ⟨fr l, o, n, none⟩
def fo : List (Nat × Root) → Objs
 | [], _ => none
 | (k, r) :: L, t => if t = k then some r else fo L t
def args0 (k : Nat) : List V → List (Nat × AV)
 | [] => []
 | v :: vs => (k, .val none v) :: args0 (k + 1) vs
structure W (P : Program) (N : Fr) (m : MC) (s : St) (Q : Post0) : Prop where
 run : MW P N m s Q
structure R (P : Program) (b : Nat) (l : List (Nat × MI)) (n : Nat) (s : St) (K : St → Prop) : Prop where
 run : ∃ s', Runs P b l s s' ∧ K { s' with next := n }
def blockQ (id : Nat) (K : St → Prop) (Q : Post0) : Post0
 | .exit id', s => if id' = id then K s else Q (.exit id') s
 | .normal, s => K s
 | e, s => Q e s
section
variable {P : Program} {N : Fr} {s s1 : St} {Q : Post0} {K : St → Prop}
theorem sim_weak {s s' : St} {w0 : Base} {D0 : BSet} {a : Act} {w : World} (h1 : ∀ t, s'.tmps t = s.tmps t ∨ s'.tmps t = .bad) (h2 : s'.objs = s.objs) (h3 : s.next ≤ s'.next) (h : Sim N w0 D0 s a w) (h4 : s'.lk = none := by rfl) : Sim N w0 D0 s' a w := by
 obtain ⟨E, hE, hn⟩ := h
 refine ⟨E, ⟨hE.good, hE.ew, by rw [hE.eo, h2], hE.size, hE.defers, fun t => ?_, hE.fix, fun t r i f h => by rw [h4] at h; cases h⟩, fun r hr => by rw [h2]; exact hn r (Nat.le_trans h3 hr)⟩
 rcases h1 t with e | e <;> rw [e]
 ·exact hE.tmps t
 ·exact .bad
theorem mw_weak {m : MC} {s s' : St} (h1 : ∀ t, s'.tmps t = s.tmps t ∨ s'.tmps t = .bad) (h2 : s'.objs = s.objs) (h3 : s.next ≤ s'.next) (h : MW P N m s' Q) (h4 : s'.lk = none := by rfl) : MW P N m s Q :=
 fun c hc w0 D0 a w hs => h c hc w0 D0 a w (sim_weak h1 h2 h3 hs h4)
theorem args0_at : ∀ (vs : List V) (k t : Nat), fr (args0 k vs) t = if k ≤ t then (match vs[t - k]? with
  | some v => .val none v
  | none => .bad) else .bad
 | [], k, t => by simp [args0, fr]
 | v :: vs, k, t => by
  simp only [args0, fr, args0_at vs (k + 1) t]
  by_cases e : t = k
  ·subst e; simp
  ·by_cases h : k ≤ t
   ·have : t - k = (t - (k + 1)) + 1 := by omega
    simp only [e, if_false, h, if_true, show k + 1 ≤ t by omega, this]
    rfl
   ·simp only [e, if_false, h, show ¬ k + 1 ≤ t by omega]
theorem con_of {f : Nat} {m : MC} {rs : List RS} {args : List V} {res : RV} (hc : compFn P f = some (m, rs)) (h : ∀ N, W P N m (mkS (args0 0 args) (fo []) 0) (EndQ rs res)) : Con P f args res := by
 unfold compFn at hc
 split at hc
 ·rename_i fn hf
  split at hc
  ·rename_i c hb
   split at hc
   ·rename_i m' r' h1 h2
    simp only [Option.some.injEq, Prod.mk.injEq] at hc
    obtain ⟨rfl, rfl⟩ := hc
    refine con_of_body hf hb h1 h2 (mw_weak (s := start args) (s' := mkS (args0 0 args) (fo []) 0) (Q := EndQ r' res) ?_ rfl (Nat.le_refl _) (h _).run)
    intro t
    simp only [mkS, args0_at, start, Nat.zero_le, if_true, Nat.sub_zero]
    split
    ·rename_i v hv; left; rw [hv]
    ·right; rfl
   ·cases hc
  ·cases hc
 ·cases hc
theorem upd_fr {l : List (Nat × AV)} {d : Nat} {av : AV} : upd (fr l) d av = fr ((d, av) :: l) := by
 funext t
 simp only [fr]
 by_cases e : t = d
 ·subst e; simp [upd_same]
 ·simp [upd_ne e, e]
theorem put_mkS {l : List (Nat × AV)} {o ob : Objs} {n d : Nat} {av : AV} : put (mkS l o n) (some d) av ob = mkS ((d, av) :: l) ob n := by simp only [put, mkS, upd_fr]
theorem put_mkS0 {l : List (Nat × AV)} {o ob : Objs} {n : Nat} {av : AV} : put (mkS l o n) none av ob = mkS l ob n := rfl
def keep (l : List (Nat × AV)) : List Nat → List (Nat × AV)
 | [] => []
 | k :: ks => (k, fr l k) :: keep l ks
theorem w_skip (h : Q .normal s) : W P N .skip s Q := ⟨mw_skip h⟩
theorem w_ret (h : Q .ret s) : W P N .ret s Q := ⟨mw_ret h⟩
theorem w_exit {id : Nat} (h : Q (.exit id) s) : W P N (.exit id) s Q := ⟨mw_exit h⟩
theorem w_reg {ms : List MI} (b n : Nat) (hb : s.next = b) (hn : b + 64 * ms.length = n) (h : R P b (enum 0 ms) n s (fun s => Q .normal s)) : W P N (.reg ms) s Q := by
 subst hb; subst hn
 obtain ⟨s', h1, h2⟩ := h.run
 exact ⟨mw_reg h1 h2⟩
theorem w_seq {x y : MC} (h : W P N x s (thenQ (fun s => W P N y s Q) Q)) : W P N (.seq x y) s Q :=
 ⟨mw_seq (mw_mono h.run fun e s h => by cases e <;> first | exact h | exact h.run)⟩
theorem w_reg_seq {ms : List MI} {y : MC} (b n : Nat) (hb : s.next = b) (hn : b + 64 * ms.length = n) (h : R P b (enum 0 ms) n s (fun s => W P N y s Q)) : W P N (.seq (.reg ms) y) s Q :=
 w_seq (w_reg b n hb hn h)
theorem w_mono {m : MC} {Q' : Post0} (h : W P N m s Q) (hq : ∀ e s, Q e s → Q' e s) : W P N m s Q' := ⟨mw_mono h.run hq⟩
theorem w_true {x : X} {y z : MC} (hb : s.get x = .val none (.bool true)) (h : W P N y s Q) : W P N (.cond x y z) s Q := ⟨mw_cond hb h.run⟩
theorem w_false {x : X} {y z : MC} (hb : s.get x = .val none (.bool false)) (h : W P N z s Q) : W P N (.cond x y z) s Q := ⟨mw_cond hb h.run⟩
theorem w_block {id : Nat} {x : MC} (h : W P N x s (blockQ id (fun s => Q .normal s) Q)) : W P N (.block id x) s Q :=
 ⟨mw_block (mw_mono h.run fun e s h => by
  cases e <;> exact h)⟩
theorem thenQ_n (h : K s) : thenQ K Q .normal s := h
theorem thenQ_r (h : Q .ret s) : thenQ K Q .ret s := h
theorem thenQ_e {id : Nat} (h : Q (.exit id) s) : thenQ K Q (.exit id) s := h
theorem blockQ_n {id : Nat} (h : K s) : blockQ id K Q .normal s := h
theorem blockQ_r {id : Nat} (h : Q .ret s) : blockQ id K Q .ret s := h
theorem blockQ_e {id : Nat} (h : K s) : blockQ id K Q (.exit id) s := by simp [blockQ, h]
theorem endQ_r {rs : List RS} {res : RV} {cs : List AV} (h1 : resAV s rs = some cs) (h2 : Gives s cs res) : EndQ rs res .ret s := ⟨.inr rfl, cs, h1, h2⟩
section
variable {b n i nn : Nat} {l : List (Nat × AV)} {o ob : Objs} {g : Option (Nat × Bool)} {ll : List (Nat × MI)} {av : AV}
theorem r_nil (h : K (mkS l o nn)) : R P b [] nn (mkS l o n) K := ⟨_, rfl, h⟩
theorem r_step {m : MI} {s s1 : St} (h1 : Step P s (b + 64 * i) m s1) (h2 : R P b ll nn s1 K) : R P b ((i, m) :: ll) nn s K := by
 obtain ⟨s', h3, h4⟩ := h2.run
 exact ⟨s', ⟨s1, h1, h3⟩, h4⟩
theorem r_p {d : Nat} {k : Bool} {m : MO} (he : ev (mkS l o n) m = some av) (h : R P b ll nn (mkS ((d, av) :: l) o n) K) :
  R P b ((i, ⟨some d, none, .p k m⟩) :: ll) nn (mkS l o n) K := r_step (.inr (.inl ⟨rfl, av, o, ⟨he, rfl⟩, put_mkS.symm⟩)) h
theorem r_pg {d t : Nat} {c k : Bool} {m : MO} (hg : fr l t = .val none (.bool c)) (he : ev (mkS l o n) m = some av) (h : R P b ll nn (mkS ((d, av) :: l) o n) K) :
  R P b ((i, ⟨some d, some (t, c), .p k m⟩) :: ll) nn (mkS l o n) K := r_step (.inr (.inl ⟨by simp [wants, mkS, hg], av, o, ⟨he, rfl⟩, put_mkS.symm⟩)) h
theorem r_f {d : Nat} {m : FO} (he : eff (mkS l o n) (b + 64 * i) m = some (av, ob)) (h : R P b ll nn (mkS ((d, av) :: l) ob n) K) :
  R P b ((i, ⟨some d, none, .f m⟩) :: ll) nn (mkS l o n) K := r_step (.inr (.inl ⟨rfl, av, ob, he, put_mkS.symm⟩)) h
theorem r_f0 {m : FO} (he : eff (mkS l o n) (b + 64 * i) m = some (av, ob)) (h : R P b ll nn (mkS l ob n) K) :
  R P b ((i, ⟨none, none, .f m⟩) :: ll) nn (mkS l o n) K := r_step (.inr (.inl ⟨rfl, av, ob, he, put_mkS0.symm⟩)) h
theorem r_no {d t : Nat} {c : Bool} {m : AO} (hg : fr l t = .val none (.bool (!c))) (h : R P b ll nn (mkS ((d, .undef) :: l) o n) K) :
  R P b ((i, ⟨some d, some (t, c), m⟩) :: ll) nn (mkS l o n) K := r_step (.inl ⟨by cases c <;> simp [wants, mkS, hg], put_mkS.symm⟩) h
theorem r_un {d t : Nat} {c : Bool} {m : AO} (hg : fr l t = .undef) (h : R P b ll nn (mkS ((d, .undef) :: l) o n) K) :
  R P b ((i, ⟨some d, some (t, c), m⟩) :: ll) nn (mkS l o n) K := r_step (.inl ⟨by simp [wants, mkS, hg], put_mkS.symm⟩) h
theorem r_c {k : Bool} {d f : Nat} {xs : List X} {Vs : List V} {res : RV} (ln : Bool) (hc : Con P f Vs res) (hok : okFn P f = true) (ht : trav (snap ln (mkS l o n) 8) (xs.map (mkS l o n).get) = some Vs) (hp : plV (b + 64 * i) o res = (av, ob))
  (h : R P b ll nn (mkS ((d, av) :: l) ob n) K) (hfit : res.fits = true := by rfl) (hcl : ln = true → res.clean = true := by first | (intro h; cases h; done) | (intro _; rfl)) :
  R P b ((i, ⟨some d, none, .call k f xs⟩) :: ll) nn (mkS l o n) K := by
 refine r_step (s1 := mkS ((d, av) :: l) ob n) (.inr (.inl ⟨rfl, _, _, ⟨ln, Vs, res, .inl ⟨hok, hc⟩, ht, trivial, hfit, hcl, rfl, rfl⟩, ?_⟩)) h
 have : (mkS l o n).objs = o := rfl
 rw [this, hp]
 exact put_mkS.symm
theorem r_cg {k : Bool} {d f t : Nat} {c : Bool} {xs : List X} {Vs : List V} {res : RV} (ln : Bool) (hg : fr l t = .val none (.bool c)) (hc : Con P f Vs res) (hok : okFn P f = true) (ht : trav (snap ln (mkS l o n) 8) (xs.map (mkS l o n).get) = some Vs) (hp : plV (b + 64 * i) o res = (av, ob))
  (h : R P b ll nn (mkS ((d, av) :: l) ob n) K) (hfit : res.fits = true := by rfl) (hcl : ln = true → res.clean = true := by first | (intro h; cases h; done) | (intro _; rfl)) :
  R P b ((i, ⟨some d, some (t, c), .call k f xs⟩) :: ll) nn (mkS l o n) K := by
 refine r_step (s1 := mkS ((d, av) :: l) ob n) (.inr (.inl ⟨by simp [wants, mkS, hg], _, _, ⟨ln, Vs, res, .inl ⟨hok, hc⟩, ht, trivial, hfit, hcl, rfl, rfl⟩, ?_⟩)) h
 have : (mkS l o n).objs = o := rfl
 rw [this, hp]
 exact put_mkS.symm
end
theorem fr_eq {k : Nat} {v : AV} {l : List (Nat × AV)} : fr ((k, v) :: l) k = v := by simp [fr]
theorem fr_ne {t k : Nat} {v : AV} {l : List (Nat × AV)} (h : (t == k) = false) : fr ((k, v) :: l) t = fr l t := by
 have : t ≠ k := by simpa using h
 simp [fr, this]
theorem fo_eq {k : Nat} {r : Root} {L : List (Nat × Root)} : fo ((k, r) :: L) k = some r := by simp [fo]
theorem fo_ne {t k : Nat} {r : Root} {L : List (Nat × Root)} (h : (t == k) = false) : fo ((k, r) :: L) t = fo L t := by
 have : t ≠ k := by simpa using h
 simp [fo, this]
theorem fo_nil {t : Nat} : fo [] t = none := rfl
theorem upd_fo {L : List (Nat × Root)} {k : Nat} {r : Root} : upd (fo L) k (some r) = fo ((k, r) :: L) := by
 funext t
 simp only [fo]
 by_cases e : t = k
 ·subst e; simp [upd_same]
 ·simp [upd_ne e, e]
attribute [simp ↓] fo_eq fo_ne fo_nil
attribute [simp] upd_fo
theorem mk_get {l : List (Nat × AV)} {o : Objs} {n t : Nat} : (mkS l o n).get (.t t) = fr l t := rfl
theorem mk_getc {l : List (Nat × AV)} {o : Objs} {n : Nat} {v : V} : (mkS l o n).get (.c v) = .val none v := rfl
theorem mk_getf {l : List (Nat × AV)} {o : Objs} {n f : Nat} : (mkS l o n).get (.f f) = .fn f [] := rfl
theorem mk_tmps {l : List (Nat × AV)} {o : Objs} {n : Nat} : (mkS l o n).tmps = fr l := rfl
theorem mk_objs {l : List (Nat × AV)} {o : Objs} {n : Nat} : (mkS l o n).objs = o := rfl
theorem mk_next {l : List (Nat × AV)} {o : Objs} {n : Nat} : (mkS l o n).next = n := rfl
theorem wrap64 {x : Int} (h : -9223372036854775808 ≤ x ∧ x ≤ 9223372036854775807) : IntKind.wrap .i64 x = x := IntWalk.i64_in x h
section
variable {k : IntKind} {x y : Int} {a b : List UInt8}
theorem i_eql : binI .eql k x y = some (.bool (decide (x = y))) := rfl
theorem i_neq : binI .neq k x y = some (.bool (decide (x ≠ y))) := rfl
theorem i_lss : binI .lss k x y = some (.bool (decide (x < y))) := rfl
theorem i_leq : binI .leq k x y = some (.bool (decide (x ≤ y))) := rfl
theorem i_gtr : binI .gtr k x y = some (.bool (decide (y < x))) := rfl
theorem i_geq : binI .geq k x y = some (.bool (decide (y ≤ x))) := rfl
theorem s_eql : binS .eql a b = some (.bool (decide (a = b))) := rfl
theorem s_neq : binS .neq a b = some (.bool (decide (a ≠ b))) := rfl
theorem s_lss : binS .lss a b = some (.bool (Op.bytesLess a b)) := rfl
theorem s_gtr : binS .gtr a b = some (.bool (!(Op.bytesLess a b || decide (a = b)))) := rfl
end
theorem cells_int {k : IntKind} {n : Int} : V.cells (.int k n) = [(.int k n)] := rfl
theorem one_int {k : IntKind} {n : Int} : V.one (.int k n) = true := rfl
theorem scalar_int {k : IntKind} {n : Int} : V.scalar (.int k n) = true := rfl
theorem plain_int {k : IntKind} {n : Int} : V.plain (.int k n) = true := rfl
theorem mk_int {k : IntKind} {n : Int} {src : Option Nat} : mk src (.int k n) = .val none (.int k n) := rfl
theorem cells_bool {b : Bool} : V.cells (.bool b) = [(.bool b)] := rfl
theorem one_bool {b : Bool} : V.one (.bool b) = true := rfl
theorem scalar_bool {b : Bool} : V.scalar (.bool b) = true := rfl
theorem plain_bool {b : Bool} : V.plain (.bool b) = true := rfl
theorem mk_bool {b : Bool} {src : Option Nat} : mk src (.bool b) = .val none (.bool b) := rfl
theorem cells_str {s : List UInt8} : V.cells (.str s) = [(.str s)] := rfl
theorem one_str {s : List UInt8} : V.one (.str s) = true := rfl
theorem scalar_str {s : List UInt8} : V.scalar (.str s) = true := rfl
theorem plain_str {s : List UInt8} : V.plain (.str s) = true := rfl
theorem mk_str {s : List UInt8} {src : Option Nat} : mk src (.str s) = .val none (.str s) := rfl
theorem cells_sl {z : Nat} {L : List V} : V.cells (.sl z L) = [(.sl z L)] := rfl
theorem one_sl {z : Nat} {L : List V} : V.one (.sl z L) = true := rfl
theorem scalar_sl {z : Nat} {L : List V} : V.scalar (.sl z L) = false := rfl
theorem plain_sl {z : Nat} {L : List V} : V.plain (.sl z L) = false := rfl
theorem mk_sl {z : Nat} {L : List V} {src : Option Nat} : mk src (.sl z L) = .val src (.sl z L) := rfl
theorem cells_ptr {cs : List V} : V.cells (.ptr cs) = [(.ptr cs)] := rfl
theorem one_ptr {cs : List V} : V.one (.ptr cs) = true := rfl
theorem scalar_ptr {cs : List V} : V.scalar (.ptr cs) = false := rfl
theorem plain_ptr {cs : List V} : V.plain (.ptr cs) = false := rfl
theorem mk_ptr {cs : List V} {src : Option Nat} : mk src (.ptr cs) = .val src (.ptr cs) := rfl
theorem cells_fn {f : Nat} {cs : List V} : V.cells (.fn f cs) = [(.fn f cs)] := rfl
theorem one_fn {f : Nat} {cs : List V} : V.one (.fn f cs) = true := rfl
theorem scalar_fn {f : Nat} {cs : List V} : V.scalar (.fn f cs) = false := rfl
theorem plain_fn {f : Nat} {cs : List V} : V.plain (.fn f cs) = false := rfl
theorem mk_fn {f : Nat} {cs : List V} {src : Option Nat} : mk src (.fn f cs) = .val src (.fn f cs) := rfl
theorem mk_none {v : V} : mk none v = .val none v := by unfold mk; split <;> rfl
theorem mk_agg {cs : List V} {src : Option Nat} : mk src (.agg cs) = if cs.all V.scalar = true then .val none (.agg cs) else .val src (.agg cs) := rfl
theorem cells_agg {cs : List V} : V.cells (.agg cs) = cs := rfl
theorem one_agg {cs : List V} : V.one (.agg cs) = false := rfl
theorem plain_agg {cs : List V} : V.plain (.agg cs) = cs.all V.scalar := rfl
attribute [simp] cells_int one_int scalar_int plain_int mk_int cells_bool one_bool scalar_bool plain_bool mk_bool cells_str one_str scalar_str plain_str mk_str cells_sl one_sl scalar_sl plain_sl mk_sl cells_ptr one_ptr scalar_ptr plain_ptr mk_ptr cells_fn one_fn scalar_fn plain_fn mk_fn mk_none mk_agg cells_agg one_agg plain_agg
attribute [simp] i_eql i_neq i_lss i_leq i_gtr i_geq s_eql s_neq s_lss s_gtr
attribute [simp ↓] fr_eq fr_ne mk_get mk_getc mk_getf mk_objs mk_next mk_tmps
attribute [simp] eqVs plainL aggOf ev eff St.view binV args0 ldV asI bnd live cellsAV absorb absorb1 absorbL elem elems elemP elemsP roL srcOf appTo inApp fillB zcells zc1 snap trav plV pl2 pl2L pl1 pl1L take1 take1L take2 take2L mkRV resAV patch fnOf
end
end Go.Ab
