import Derived.Test.YtnideigmfhhedaaGreatDoorU4
import Derived.Test.YtnideigmfhhedaaGreatDoorPM
set_option linter.unusedVariables false
set_option linter.unusedSimpArgs false
namespace Go.Ab
open Go.RowKit
def SmS (s : List UInt8) : Prop := (s.length : Int) ≤ 1048576
def SmL {α : Type} (P : α → Prop) (L : List α) : Prop := (L.length : Int) ≤ 1048576 ∧ ∀ a ∈ L, P a
theorem int_lt_set {α : Type} {L : List α} {i : Nat} {a : α} : (List.set L i a).length = L.length := List.length_set
theorem ix_set {α : Type} {L : List α} {i : Nat} {a : α} (h : i < L.length) : ix (L.set i a) (i : Int) = some a := by rw [ix_nat, List.getElem?_set_self h]
noncomputable def mt (k : Int) : List UInt8 := (F_laws_markText k).getD []
theorem markText_mt (k : Int) (h1 : 1 ≤ k) (h2 : k ≤ 4611686018427387904) : F_laws_markText k = some (mt k) := by
 have key : ∃ r, F_laws_markText k = some r ∧ True := by
  unfold F_laws_markText
  rw [decide_eq_false (by omega), bif_f]
  refine loop_mu (fun s => 0 ≤ s.1 ∧ s.1 + (s.2.length : Int) ≤ 4611686018427387904) (fun s => s.1.toNat) ⟨by dsimp only; omega, by simp; omega⟩ (lt_lim (by dsimp only; omega)) ?_
  rintro ⟨v, t⟩ K ⟨q1, q2⟩ hK
  dsimp only at q1 q2 hK
  have hb : ∀ x : Int, (bytesI [x]).length = 1 := fun _ => rfl
  simp only [F_laws_markText_l0, bif_dec]
  split
  ·rename_i hv
   have e1 : Int.tdiv v 10 = v / 10 := Int.tdiv_eq_ediv_of_nonneg q1
   rw [need_true (by rw [hb]; omega), e1, w64_id (by omega)]
   refine hK _ ⟨by dsimp only; omega, ?_⟩ (by dsimp only; omega)
   simp only [List.length_append, hb]
   omega
  ·rw [need_true (by simp only [List.length_cons, List.length_nil]; omega)]
   exact ⟨_, rfl, trivial⟩
 obtain ⟨r, h, _⟩ := key
 rw [mt, h]; rfl
end Go.Ab
