/- The laws' helpers over plain data (own text, printed by sup.py). -/
import Derived.Test.YthcojmhjnbebdaaDoorU0
import Derived.Test.YthcojmhjnbebdaaDoorPM
set_option linter.unusedVariables false
set_option linter.unusedSimpArgs false
namespace Go.Ab
open Go.RowKit
def SmS (s : List UInt8) : Prop := (s.length : Int) ≤ 1048576
def SmL {α : Type} (P : α → Prop) (L : List α) : Prop := (L.length : Int) ≤ 1048576 ∧ ∀ a ∈ L, P a
theorem int_lt_set {α : Type} {L : List α} {i : Nat} {a : α} : (List.set L i a).length = L.length := List.length_set
theorem ix_set {α : Type} {L : List α} {i : Nat} {a : α} (h : i < L.length) : ix (L.set i a) (i : Int) = some a := by rw [ix_nat, List.getElem?_set_self h]
noncomputable def OkLesson (p : TLesson) : Prop := OkI p.1 ∧ OkS p.2.1 ∧ OkS p.2.2.1 ∧ OkI p.2.2.2.1 ∧ OkI p.2.2.2.2
noncomputable def SmLesson (p : TLesson) : Prop := (fun _ => True) p.1 ∧ SmS p.2.1 ∧ SmS p.2.2.1 ∧ (fun _ => True) p.2.2.2.1 ∧ (fun _ => True) p.2.2.2.2
noncomputable def CtLesson (p : TLesson) : Prop := (fun _ => True) p.1 ∧ (fun _ => True) p.2.1 ∧ (fun _ => True) p.2.2.1 ∧ (fun _ => True) p.2.2.2.1 ∧ (fun _ => True) p.2.2.2.2
theorem ctsm_Lesson (p : TLesson) (h : SmLesson p) : CtLesson p := by
  obtain ⟨h0, h1, h2, h3, h4⟩ := h
  exact ⟨trivial, trivial, trivial, trivial, trivial⟩
theorem dec_Lesson (x : V) (h : Elem true [.int .i64, .str, .str, .int .i64, .int .i64] x) : ∃ p : TLesson, x = eLesson p ∧ OkLesson p := by
  obtain ⟨h1, h2⟩ := h
  have h1 : x = .agg x.cells := h1
  obtain ⟨v0, l0, hc, k0, v1, l1, rfl, k1, v2, l2, rfl, k2, v3, l3, rfl, k3, v4, l4, rfl, k4, rfl⟩ := h2
  obtain ⟨a0, rfl, b0⟩ := dec_i64 k0
  obtain ⟨a1, rfl, b1⟩ := dec_str k1
  obtain ⟨a2, rfl, b2⟩ := dec_str k2
  obtain ⟨a3, rfl, b3⟩ := dec_i64 k3
  obtain ⟨a4, rfl, b4⟩ := dec_i64 k4
  exact ⟨(a0, a1, a2, a3, a4), by rw [h1, hc]; rfl, ⟨b0, b1, b2, b3, b4⟩⟩
theorem eq_Lesson (p : TLesson) (h : CtLesson p) : F_laws_eqLesson p p = some true := by
  obtain ⟨s0, s1, s2, s3, s4⟩ := h
  simp [F_laws_eqLesson]
end Go.Ab
