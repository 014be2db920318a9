import Derived.Test.YtfldoapdidpgdaaB3
set_option linter.unusedVariables false
set_option linter.unusedSimpArgs false
namespace Go.Ab
open Go.RowKit
def clrL {α : Type} (A : List α) (lo hi : Int) (z : α) : List α := A.take lo.toNat ++ List.replicate (hi.toNat - lo.toNat) z ++ A.drop hi.toNat
theorem clrL_len {α : Type} {A : List α} {lo hi : Int} {z : α} (h : 0 ≤ lo ∧ lo ≤ hi ∧ hi ≤ A.length) : (clrL A lo hi z).length = A.length := by
 unfold clrL; simp; omega
def inL {α : Type} (A : List α) (h lo hi : Int) : List α := A.take h.toNat ++ sub A lo hi ++ A.drop (h + (hi - lo)).toNat
theorem inL_len {α : Type} {A : List α} {l h lo hi : Int} (h1 : 0 ≤ l ∧ l ≤ h ∧ h ≤ A.length) (h2 : 0 ≤ lo ∧ lo ≤ hi ∧ hi ≤ A.length) (h3 : h + (hi - lo) ≤ A.length) : (inL A h lo hi).length = A.length := by
 unfold inL sub; simp; omega
theorem pt_in {α : Type} {A : List α} {l h lo hi : Int} (h1 : 0 ≤ l ∧ l ≤ h ∧ h ≤ A.length) (h2 : 0 ≤ lo ∧ lo ≤ hi ∧ hi ≤ A.length) (h3 : h + (hi - lo) ≤ A.length) : 0 ≤ l ∧ l ≤ h + (hi - lo) ∧ h + (hi - lo) ≤ (inL A h lo hi).length := by
 rw [inL_len h1 h2 h3]; omega
theorem pt_sub {α : Type} {A B : List α} {lo hi l h : Int} (h1 : 0 ≤ lo ∧ lo ≤ hi ∧ hi ≤ B.length) (h2 : 0 ≤ l ∧ l ≤ h ∧ lo + h ≤ A.length) : 0 ≤ lo + l ∧ lo + l ≤ lo + h ∧ lo + h ≤ A.length := by omega
section
variable {s : St} {x : X} {sz : Nat} {α : Type} {e : α → V} {A B : List α}
theorem ev_slc_p {r : Nat} {own : Bool} {lo hi l h : Int} {xl xh : Option X} (hx : s.get x = .sl r lo.toNat (hi.toNat - lo.toNat)) (hr : s.objs r = some (.row own sz (A.map e))) (hl : bnd s 0 xl = some l.toNat) (hh : bnd s (hi.toNat - lo.toNat) xh = some h.toNat) (g : 0 ≤ lo ∧ lo ≤ hi ∧ hi ≤ B.length) (g2 : 0 ≤ l ∧ l ≤ h ∧ lo + h ≤ A.length) :
  ev s (.slc x xl xh sz) = some (.sl r (lo + l).toNat ((lo + h).toNat - (lo + l).toNat)) := by
 have h1 : l.toNat ≤ h.toNat := by omega
 have h2 : lo.toNat + h.toNat ≤ A.length := by omega
 simp only [ev, hx, hr, hl, hh, h1, h2, List.length_map, and_self, if_true, Option.some.injEq, AV.sl.injEq, true_and]
 omega
theorem ev_len_p {r : Nat} {own : Bool} {lo hi : Int} (hx : s.get x = .sl r lo.toNat (hi.toNat - lo.toNat)) (hr : s.objs r = some (.row own sz (A.map e))) (g : 0 ≤ lo ∧ lo ≤ hi ∧ hi ≤ B.length) : ev s (.len x) = some (AI (hi - lo)) := by
 simp only [ev, hx, hr, Option.some.injEq]
 show AI _ = AI _
 congr 1
 omega
theorem ev_slc3 {r m : Nat} {own : Bool} {lo hi mx : Int} {xl xh xm : X} (hx : s.get x = .sl r 0 m) (hm : m = A.length) (hr : s.objs r = some (.row own sz (A.map e))) (hl : bnd s 0 (some xl) = some lo.toNat) (hh : bnd s m (some xh) = some hi.toNat) (hm2 : bnd s 0 (some xm) = some mx.toNat) (h : 0 ≤ lo ∧ lo ≤ hi ∧ hi ≤ mx ∧ mx ≤ A.length) : ev s (.slc3 x (some xl) (some xh) (some xm) sz) = some .bad := by
 subst hm
 have h1 : lo.toNat ≤ hi.toNat := by omega
 have h2 : hi.toNat ≤ mx.toNat := by omega
 have h3 : mx.toNat ≤ A.length := by omega
 simp only [ev, hx, hr, hl, hh, hm2, h1, h2, h3, List.length_map, Option.isSome_some, and_self, if_true, Nat.zero_add]
end
section
variable {n id : Nat} {l : List (Nat × AV)} {L : List (Nat × Root)} {α : Type} {e : α → V} {A B C : List α}
theorem effT_clr {x : X} {sz r : Nat} {own : Bool} {lo hi : Int} {a : α} {z : V} (hx : (mkS l (fo L) n).get x = .sl r lo.toNat (hi.toNat - lo.toNat)) (hr : fo L r = some (.row own sz (A.map e))) (g : 0 ≤ lo ∧ lo ≤ hi ∧ hi ≤ A.length) (hz : e a = z) (hs : 0 < sz) :
  eff (mkS l (fo L) n) id (.clr x z sz) = some (.undef, fo ((r, .row own sz ((clrL A lo hi a).map e)) :: L)) := by
 have h1 : lo.toNat + (hi.toNat - lo.toNat) ≤ A.length := by omega
 have h2 : lo.toNat + (hi.toNat - lo.toNat) = hi.toNat := by omega
 have hr' : (mkS l (fo L) n).objs r = some (.row own sz (A.map e)) := hr
 simp only [eff, hx, hr']
 rw [if_pos ⟨trivial, hs, by rw [List.length_map]; exact h1⟩]
 simp only [mk_objs, upd_fo, clrL, h2, List.map_append, List.map_take, List.map_drop, List.map_replicate, hz]
theorem effT_in {x y : X} {sz by_ r : Nat} {own mv : Bool} {lo hi lo2 hi2 : Int} (hx : (mkS l (fo L) n).get x = .sl r lo.toNat (hi.toNat - lo.toNat)) (hy : (mkS l (fo L) n).get y = .sl r lo2.toNat (hi2.toNat - lo2.toNat)) (hr : fo L r = some (.row own sz (A.map e)))
  (g : 0 ≤ lo ∧ lo ≤ hi ∧ hi ≤ A.length) (g2 : 0 ≤ lo2 ∧ lo2 ≤ hi2 ∧ hi2 ≤ A.length) (g3 : hi + (hi2 - lo2) ≤ A.length) (hp : ∀ a, V.plain (e a) = true) (hs : 0 < sz) {t : Nat} (hxt : x = .t t := by rfl) :
  eff (mkS l (fo L) n) id (.app x y sz by_ mv) = some (.sl r lo.toNat ((hi + (hi2 - lo2)).toNat - lo.toNat), fo ((r, .row own sz ((inL A hi lo2 hi2).map e)) :: L)) := by
 subst hxt
 have hr' : (mkS l (fo L) n).objs r = some (.row own sz (A.map e)) := hr
 have h1 : lo.toNat + (hi.toNat - lo.toNat) + (hi2.toNat - lo2.toNat) ≤ A.length := by omega
 have h2 : lo2.toNat + (hi2.toNat - lo2.toNat) ≤ A.length := by omega
 have h3 : (((A.map e).drop lo2.toNat).take (hi2.toNat - lo2.toNat)).all V.plain = true := by
  rw [List.all_eq_true]
  intro v hv
  obtain ⟨a, _, rfl⟩ := List.mem_map.1 (List.mem_of_mem_drop (List.mem_of_mem_take hv))
  exact hp a
 have e1 : srcOf r (mkS l (fo L) n).objs sz mv (.sl r lo2.toNat (hi2.toNat - lo2.toNat)) = none := by simp [srcOf, hr]
 have e2 : lo.toNat + (hi.toNat - lo.toNat) = hi.toNat := by omega
 have e3 : hi.toNat + (hi2.toNat - lo2.toNat) = (hi + (hi2 - lo2)).toNat := by omega
 have e4 : hi.toNat - lo.toNat + (hi2.toNat - lo2.toNat) = (hi + (hi2 - lo2)).toNat - lo.toNat := by omega
 have e5 : ((A.map e).drop lo2.toNat).take (hi2.toNat - lo2.toNat) = (sub A lo2 hi2).map e := by rw [sub_drop, List.map_take, List.map_drop]
 simp only [eff, hx, hy, hr', if_true, appTo, e1, inApp]
 rw [if_pos ⟨trivial, hs, by rw [List.length_map]; exact h1, by rw [List.length_map]; exact h2, h3⟩]
 simp only [e2, e3, e4, mk_objs, upd_fo, inL, List.map_append, List.map_take, List.map_drop, e5]
end
end Go.Ab
