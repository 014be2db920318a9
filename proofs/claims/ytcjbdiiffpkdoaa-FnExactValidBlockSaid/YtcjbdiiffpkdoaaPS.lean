/- The laws' helpers over plain data (own text, printed by sup.py). -/
import Derived.Test.YtcjbdiiffpkdoaaU0
import Derived.Test.YtcjbdiiffpkdoaaPM
set_option linter.unusedVariables false
set_option linter.unusedSimpArgs false
namespace Go.Ab
open Go.RowKit
def SmS (s : List UInt8) : Prop := (s.length : Int) ≤ 1048576
def SmL {α : Type} (P : α → Prop) (L : List α) : Prop := (L.length : Int) ≤ 1048576 ∧ ∀ a ∈ L, P a
theorem int_lt_set {α : Type} {L : List α} {i : Nat} {a : α} : (List.set L i a).length = L.length := List.length_set
theorem ix_set {α : Type} {L : List α} {i : Nat} {a : α} (h : i < L.length) : ix (L.set i a) (i : Int) = some a := by rw [ix_nat, List.getElem?_set_self h]
def OkBlock (p : TBlock) : Prop := OkS p.1 ∧ OkS p.2.1 ∧ OkS p.2.2
def SmBlock (p : TBlock) : Prop := SmS p.1 ∧ SmS p.2.1 ∧ SmS p.2.2
def CtBlock (p : TBlock) : Prop := (fun _ => True) p.1 ∧ (fun _ => True) p.2.1 ∧ (fun _ => True) p.2.2
theorem ctsm_Block (p : TBlock) (h : SmBlock p) : CtBlock p := by
  obtain ⟨h0, h1, h2⟩ := h
  exact ⟨trivial, trivial, trivial⟩
theorem dec_Block (x : V) (h : Elem true [.str, .str, .str] x) : ∃ p : TBlock, x = eBlock p ∧ OkBlock p := by
  obtain ⟨h1, h2⟩ := h
  have h1 : x = .agg x.cells := h1
  obtain ⟨v0, l0, hc, k0, v1, l1, rfl, k1, v2, l2, rfl, k2, rfl⟩ := h2
  obtain ⟨a0, rfl, b0⟩ := dec_str k0
  obtain ⟨a1, rfl, b1⟩ := dec_str k1
  obtain ⟨a2, rfl, b2⟩ := dec_str k2
  exact ⟨(a0, a1, a2), by rw [h1, hc]; rfl, b0, b1, b2⟩
theorem sz_Block (p : TBlock) (hp : OkBlock p) (l : Int) (h0 : 0 ≤ l) (hl : l ≤ 1048576) : ∃ r, F_laws_szBlock p l = some r ∧ (r ≤ l ∧ (0 ≤ r → SmBlock p)) := by
  obtain ⟨o0, o1, o2⟩ := hp
  unfold F_laws_szBlock
  have q0 : p.1.length ≤ 9223372036854775807 := o0
  rw [w64_id (by omega)]
  rw [bif_dec]
  split
  · exact ⟨_, rfl, by omega, by omega⟩
  have q1 : p.2.1.length ≤ 9223372036854775807 := o1
  rw [w64_id (by omega)]
  rw [bif_dec]
  split
  · exact ⟨_, rfl, by omega, by omega⟩
  have q2 : p.2.2.length ≤ 9223372036854775807 := o2
  rw [w64_id (by omega)]
  rw [bif_dec]
  split
  · exact ⟨_, rfl, by omega, by omega⟩
  exact ⟨_, rfl, by omega, fun _ => ⟨(by show (p.1.length : Int) ≤ 1048576; omega), (by show (p.2.1.length : Int) ≤ 1048576; omega), (by show (p.2.2.length : Int) ≤ 1048576; omega)⟩⟩
theorem to_Block (p : TBlock) (h : CtBlock p) : F_laws_toBlock p = some p := by
  obtain ⟨s0, s1, s2⟩ := h
  unfold F_laws_toBlock
  rfl
end Go.Ab
