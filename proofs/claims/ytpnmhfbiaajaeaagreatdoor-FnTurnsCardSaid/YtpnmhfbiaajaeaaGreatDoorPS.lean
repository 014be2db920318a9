import Derived.Test.YtpnmhfbiaajaeaaGreatDoorU1
import Derived.Test.YtpnmhfbiaajaeaaGreatDoorPM
set_option linter.unusedVariables false
set_option linter.unusedSimpArgs false
namespace Go.Ab
open Go.RowKit
def SmS (s : List UInt8) : Prop := (s.length : Int) ≤ 1048576
def SmL {α : Type} (P : α → Prop) (L : List α) : Prop := (L.length : Int) ≤ 1048576 ∧ ∀ a ∈ L, P a
theorem int_lt_set {α : Type} {L : List α} {i : Nat} {a : α} : (List.set L i a).length = L.length := List.length_set
theorem ix_set {α : Type} {L : List α} {i : Nat} {a : α} (h : i < L.length) : ix (L.set i a) (i : Int) = some a := by rw [ix_nat, List.getElem?_set_self h]
noncomputable def OkTurn (p : TTurn) : Prop := OkS p.1 ∧ OkI p.2.1 ∧ OkI p.2.2
noncomputable def SmTurn (p : TTurn) : Prop := SmS p.1 ∧ (fun _ => True) p.2.1 ∧ (fun _ => True) p.2.2
noncomputable def CtTurn (p : TTurn) : Prop := (fun _ => True) p.1 ∧ (fun _ => True) p.2.1 ∧ (fun _ => True) p.2.2
theorem ctsm_Turn (p : TTurn) (h : SmTurn p) : CtTurn p := by
 obtain ⟨h0, h1, h2⟩ := h
 exact ⟨trivial, trivial, trivial⟩
theorem dec_Turn (x : V) (h : Elem true [.str, .int .i64, .int .i64] x) : ∃ p : TTurn, x = eTurn p ∧ OkTurn p := by
 obtain ⟨h1, h2⟩ := h
 have h1 : x = .agg x.cells := h1
 obtain ⟨v0, l0, hc, k0, v1, l1, rfl, k1, v2, l2, rfl, k2, rfl⟩ := h2
 obtain ⟨a0, rfl, b0⟩ := dec_str k0
 obtain ⟨a1, rfl, b1⟩ := dec_i64 k1
 obtain ⟨a2, rfl, b2⟩ := dec_i64 k2
 exact ⟨(a0, a1, a2), by rw [h1, hc]; rfl, ⟨b0, b1, b2⟩⟩
end Go.Ab
