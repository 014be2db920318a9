/- Short forms of what the walks' printer writes (own text). -/
import Derived.Test.YtkfkofohmlpmkaaGreatDoorMP
set_option linter.unusedVariables false
namespace Go.Ab
open Go.RowKit
abbrev rg (d : Nat) (k : AO) : MI := ⟨some d, none, k⟩
abbrev mvt (d x : Nat) : MI := ⟨some d, none, .p true (.mv (.t x))⟩
abbrev vI : Int → V := V.int .i64
abbrev AL (sz : Nat) (L : List V) : AV := .val none (.sl sz L)
section
variable {P : Program} {N : Fr} {s : St} {Q : Post0} {K : St → Prop}
theorem ws {ms : List MI} {y : MC} (b n : Nat) (h : R P b (enum 0 ms) n s (fun s => W P N y s Q)) (hb : s.next = b := by rfl) (hn : b + 64 * ms.length = n := by rfl) : W P N (.seq (.reg ms) y) s Q := w_reg_seq b n hb hn h
theorem cF {ρ : Type} {r : ρ} {x : X} {y z : MC} {b : Bool} {A B : Option ρ} (hF : (bif b then A else B) = some r) (h1 : A = some r → W P N y s Q) (h2 : B = some r → W P N z s Q) (hb : s.get x = .val none (.bool b) := by rfl) : W P N (.cond x y z) s Q := w_condF hF hb h1 h2
theorem eR {rs : List RS} {res : RV} {cs : List AV} {q : List R2} {l : List Nat} (h1 : resAV s rs = some cs := by rfl) (h2 : take2L s cs = some (q, l) := by first | rfl | (simp [List.take_of_length_le]; first | exact ⟨rfl, rfl⟩ | rfl)) (h3 : l.Nodup := by simp) (h4 : res = mkRV q := by first | rfl | simp [List.take_of_length_le]) : EndQ rs res .ret s := endQ_r h1 (.inl ⟨q, l, h2, h3, h4⟩)
theorem wr {m : MC} {l l' : List (Nat × AV)} {o : Objs} {n : Nat} {L : List (Nat × Root)} (ks : List Nat) (ps : List (Nat × Nat)) (n' : Nat) (h : W P N m (mkS l' (fo L) n') Q) (hl : keepA ps l ks = some l' := by first | rfl | simp) (ho : keepO ps o ps = some L := by first | rfl | simp) (h1 : (ps.map (·.1)).Nodup := by decide) (h2 : (ps.map (·.2)).Nodup := by decide) (h3 : ∀ p ∈ ps, p.2 < n' := by decide) : W P N m (mkS l o n) Q := w_ren ks ps n' hl ho h1 h2 h3 h
theorem ar {l l' : List (Nat × AV)} {o : Objs} {n : Nat} {L : List (Nat × Root)} (ks : List Nat) (ps : List (Nat × Nat)) (n' : Nat) (h : K (mkS l' (fo L) n')) (hl : keepA ps l ks = some l' := by first | rfl | simp) (ho : keepO ps o ps = some L := by first | rfl | simp) (h1 : (ps.map (·.1)).Nodup := by decide) (h2 : (ps.map (·.2)).Nodup := by decide) (h3 : ∀ p ∈ ps, p.2 < n' := by decide) : Aw N (mkS l o n) K := aw_ren ks ps n' hl ho h1 h2 h3 h
end
/-- A pointer to more cells is one to the first of them. -/
theorem Rep.pre {w : World} {D : BSet} {cs rest : List V} {x : Value} {S : BSet} (h : Rep w D false (.ptr (cs ++ rest)) x S) : Rep w D false (.ptr cs) x S := by
  cases h with
  | ptr hD hb h1 h =>
    obtain ⟨x1, x2, S1, S2, rfl, hx, _⟩ := h.split
    obtain ⟨cur, e, fz, hc, hv⟩ := hb
    refine .ptr hD ⟨cur, e, fz, hc, fun j u hj => hv j u ?_⟩ (fun c hc => h1 c (List.mem_append_left _ hc)) hx.ro
    rw [List.getElem?_append_left (by
      rcases Nat.lt_or_ge j x1.length with h | h
      · exact h
      · rw [List.getElem?_eq_none h] at hj; cases hj)]
    exact hj
section
variable {P : Program} {f : FuncId} {cs a : List V} {res : RV} {x y : V}
theorem con_pre0 (rest : List V) (h : Con P f (.ptr cs :: a) res) : Con P f (.ptr (cs ++ rest) :: a) res := by
  intro w D vs hD hr
  cases hr with
  | cons h1 h2 hd hs1 hs2 => exact h w D _ hD (.cons h1.pre h2 hd hs1 hs2)
theorem con_pre1 (rest : List V) (h : Con P f (x :: .ptr cs :: a) res) : Con P f (x :: .ptr (cs ++ rest) :: a) res := by
  intro w D vs hD hr
  cases hr with
  | cons g1 hr gd gs1 gs2 =>
    cases hr with
    | cons h1 h2 hd hs1 hs2 => exact h w D _ hD (.cons g1 (.cons h1.pre h2 hd hs1 hs2) gd gs1 gs2)
end
end Go.Ab
