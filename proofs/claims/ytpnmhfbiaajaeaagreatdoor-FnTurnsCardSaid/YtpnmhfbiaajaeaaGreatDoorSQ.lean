import Derived.Test.YtpnmhfbiaajaeaaGreatDoorMP
set_option linter.unusedVariables false
namespace Go.Ab
open Go.RowKit
abbrev rg (d : Nat) (k : AO) : MI := ⟨some d, none, k⟩
abbrev mvt (d x : Nat) : MI := ⟨some d, none, .p true (.mv (.t x))⟩
abbrev t0 : X := .t 0
abbrev t1 : X := .t 1
abbrev t2 : X := .t 2
abbrev t3 : X := .t 3
abbrev t4 : X := .t 4
abbrev t5 : X := .t 5
abbrev t6 : X := .t 6
abbrev t9 : X := .t 9
abbrev t20 : X := .t 20
abbrev t21 : X := .t 21
abbrev t22 : X := .t 22
abbrev t26 : X := .t 26
abbrev t27 : X := .t 27
abbrev t29 : X := .t 29
abbrev t32 : X := .t 32
abbrev t35 : X := .t 35
abbrev t36 : X := .t 36
abbrev t37 : X := .t 37
abbrev t41 : X := .t 41
abbrev t44 : X := .t 44
abbrev t46 : X := .t 46
abbrev t51 : X := .t 51
abbrev t53 : X := .t 53
abbrev t57 : X := .t 57
abbrev t59 : X := .t 59
abbrev t63 : X := .t 63
abbrev t64 : X := .t 64
abbrev t75 : X := .t 75
abbrev t80 : X := .t 80
abbrev t85 : X := .t 85
abbrev t127 : X := .t 127
abbrev t143 : X := .t 143
abbrev t145 : X := .t 145
abbrev t146 : X := .t 146
abbrev ct : X := .c (.bool true)
@[simp] abbrev eFn (f : Nat) (_ : Unit) : V := .fn f []
@[simp] theorem roMode_fn (f : Nat) : roMode (.fn f []) = some (.fn f []) := rfl
theorem ns {R : Type} {p : Prop} [Decidable p] {x : Option R} {r : R} (h : need p x = some r) : p ∧ x = some r := need_some h
abbrev vI : Int → V := V.int .i64
abbrev AL (sz : Nat) (L : List V) : AV := .val none (.sl sz L)
section
variable {P : Program} {N : Fr} {s : St} {Q : Post0} {K : St → Prop}
theorem ws {ms : List MI} {y : MC} (b n : Nat) (h : R P b (enum 0 ms) n s (fun s => W P N y s Q)) (hb : s.next = b := by rfl) (hn : b + 64 * ms.length = n := by rfl) : W P N (.seq (.reg ms) y) s Q := w_reg_seq b n hb hn h
theorem cF {ρ : Type} {r : ρ} {x : X} {y z : MC} {b : Bool} {A B : Option ρ} (hF : (bif b then A else B) = some r) (h1 : A = some r → W P N y s Q) (h2 : B = some r → W P N z s Q) (hb : s.get x = .val none (.bool b) := by rfl) : W P N (.cond x y z) s Q := w_condF hF hb h1 h2
theorem eR {rs : List RS} {res : RV} {cs : List AV} {q : List R2} {l : List Nat} (h1 : resAV s rs = some cs := by rfl) (h2 : take2L s cs = some (q, l) := by first | rfl | (simp [List.take_of_length_le]; first | exact ⟨rfl, rfl⟩ | rfl)) (h3 : l.Nodup := by simp) (h4 : res = mkRV q := by first | rfl | simp [List.take_of_length_le]) : EndQ rs res .ret s := endQ_r h1 (.inl ⟨q, l, h2, h3, h4⟩)
theorem wr {m : MC} {l l' : List (Nat × AV)} {o : Objs} {n : Nat} {L : List (Nat × Root)} (ks : List Nat) (ps : List (Nat × Nat)) (n' : Nat) (h : W P N m (mkS l' (fo L) n') Q) (hl : keepA ps l ks = some l' := by first | rfl | simp) (ho : keepO ps o ps = some L := by first | rfl | simp) (h1 : (ps.map (·.1)).Nodup := by decide) (h2 : (ps.map (·.2)).Nodup := by decide) (h3 : ∀ p ∈ ps, p.2 < n' := by decide) : W P N m (mkS l o n) Q := w_ren ks ps n' hl ho h1 h2 h3 h
theorem ar {l l' : List (Nat × AV)} {o : Objs} {n : Nat} {L : List (Nat × Root)} (ks : List Nat) (ps : List (Nat × Nat)) (n' : Nat) (h : K (mkS l' (fo L) n')) (hl : keepA ps l ks = some l' := by first | rfl | simp) (ho : keepO ps o ps = some L := by first | rfl | simp) (h1 : (ps.map (·.1)).Nodup := by decide) (h2 : (ps.map (·.2)).Nodup := by decide) (h3 : ∀ p ∈ ps, p.2 < n' := by decide) : Aw N (mkS l o n) K := aw_ren ks ps n' hl ho h1 h2 h3 h
end
section
variable {P : Program} {N : Fr} {K : St → Prop} {b n nn : Nat} {l : List (Nat × AV)} {o : Objs} {ll : List (Nat × MI)}
theorem qb {k : Bool} {d i : Nat} {m : MO} (h : R P b ll nn (mkS ((d, AB false) :: l) o n) K) (he : ev (mkS l o n) m = some (AB false) := by rfl) : R P b ((i, ⟨some d, none, .p k m⟩) :: ll) nn (mkS l o n) K := qp _ he h
theorem qt {k : Bool} {d i : Nat} {m : MO} (h : R P b ll nn (mkS ((d, AB true) :: l) o n) K) (he : ev (mkS l o n) m = some (AB true) := by rfl) : R P b ((i, ⟨some d, none, .p k m⟩) :: ll) nn (mkS l o n) K := qp _ he h
end
theorem Rep.pre {w : World} {D : BSet} {cs rest : List V} {x : Value} {S : BSet} (h : Rep w D false (.ptr (cs ++ rest)) x S) : Rep w D false (.ptr cs) x S := by
 cases h with
 | ptr hD hb h1 h =>
  obtain ⟨x1, x2, S1, S2, rfl, hx, _⟩ := h.split
  obtain ⟨cur, e, fz, hc, hv⟩ := hb
  refine .ptr hD ⟨cur, e, fz, hc, fun j u hj => hv j u ?_⟩ (fun c hc => h1 c (List.mem_append_left _ hc)) hx.ro
  rw [List.getElem?_append_left (by
   rcases Nat.lt_or_ge j x1.length with h | h
   ·exact h
   ·rw [List.getElem?_eq_none h] at hj; cases hj)]
  exact hj
section
variable {P : Program} {f : FuncId} {cs a : List V} {res : RV} {x y : V}
end
end Go.Ab
