import Derived.Test.YtpnmhfbiaajaeaaGreatDoorPL
set_option linter.unusedVariables false
set_option linter.unusedSimpArgs false
namespace Go.Ab
open Go.RowKit
def Elem (ag : Bool) (el : List CT) (x : V) : Prop := (if ag = true then x = .agg x.cells else V.one x = true) ∧ okCs el x.cells
def OkS (s : List UInt8) : Prop := s.length ≤ 9223372036854775807
def OkI (n : Int) : Prop := -9223372036854775808 ≤ n ∧ n ≤ 9223372036854775807
def OkL {α : Type} (P : α → Prop) (L : List α) : Prop := L.length ≤ 9223372036854775807 ∧ ∀ a ∈ L, P a
theorem dec_str {v : V} (h : okC .str v) : ∃ s, v = .str s ∧ OkS s := by
 obtain ⟨s, rfl, hs⟩ := h; exact ⟨s, rfl, hs⟩
theorem dec_i64 {v : V} (h : okC (.int .i64) v) : ∃ n, v = .int .i64 n ∧ OkI n := by
 obtain ⟨n, rfl, hn⟩ := h
 refine ⟨n, rfl, ?_⟩
 simp only [Lit.wf, Bool.and_eq_true, decide_eq_true_eq] at hn
 have e1 : IntKind.i64.min = -9223372036854775808 := by decide
 have e2 : IntKind.i64.max = 9223372036854775807 := by decide
 rw [e1, e2] at hn
 exact hn
def OkU (n : Int) : Prop := 0 ≤ n ∧ n ≤ 255
theorem dec_u8 {v : V} (h : okC (.int .u8) v) : ∃ n, v = .int .u8 n ∧ OkU n := by
 obtain ⟨n, rfl, hn⟩ := h
 refine ⟨n, rfl, ?_⟩
 simp only [Lit.wf, Bool.and_eq_true, decide_eq_true_eq] at hn
 have e1 : IntKind.u8.min = 0 := by decide
 have e2 : IntKind.u8.max = 255 := by decide
 rw [e1, e2] at hn
 exact hn
theorem dec_map {α : Type} {e : α → V} {P : α → Prop} {ag : Bool} {el : List CT} (hd : ∀ x, Elem ag el x → ∃ a, x = e a ∧ P a) : ∀ {L : List V}, (∀ x ∈ L, Elem ag el x) → ∃ A : List α, L = A.map e ∧ ∀ a ∈ A, P a
 | [], _ => ⟨[], rfl, by simp⟩
 | x :: L, h => by
  obtain ⟨a, rfl, ha⟩ := hd x (h x (by simp))
  obtain ⟨A, rfl, hA⟩ := dec_map hd (L := L) (fun y hy => h y (by simp [hy]))
  exact ⟨a :: A, rfl, by intro b hb; rcases List.mem_cons.1 hb with rfl | hb; exact ha; exact hA b hb⟩
theorem dec_sl {α : Type} {e : α → V} {P : α → Prop} {sz : Nat} {ag : Bool} {el : List CT} (hd : ∀ x, Elem ag el x → ∃ a, x = e a ∧ P a) {v : V} (h : okC (.sl sz ag el) v) : ∃ A : List α, v = .sl sz (A.map e) ∧ OkL P A := by
 simp only [okC] at h
 obtain ⟨L, rfl, hl, hL⟩ := h
 obtain ⟨A, rfl, hA⟩ := dec_map hd hL
 exact ⟨A, rfl, by rw [List.length_map] at hl; exact hl, hA⟩
theorem dec_one {α : Type} {e : α → V} {P : α → Prop} {c : CT} (hd : ∀ v, okC c v → ∃ a, v = e a ∧ P a) (x : V) (h : Elem false [c] x) : ∃ a, x = e a ∧ P a := by
 obtain ⟨h1, h2⟩ := h
 have h1 : V.one x = true := h1
 rw [V.cells_one h1] at h2
 simp only [okCs] at h2
 obtain ⟨v, l, h3, h4, rfl⟩ := h2
 simp only [List.cons.injEq, and_true] at h3
 subst h3
 exact hd _ h4
end Go.Ab
