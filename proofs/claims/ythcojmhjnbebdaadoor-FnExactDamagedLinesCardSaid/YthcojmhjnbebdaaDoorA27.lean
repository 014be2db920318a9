/- An argument of a law, whatever its type (own framework). -/
import Derived.Test.YthcojmhjnbebdaaDoorA26
import Derived.WideShapes
import Derived.RowKit
set_option linter.unusedVariables false
set_option linter.unusedSimpArgs false
namespace Go.Ab
open Go.RowKit Go.WideShapes
section
variable {P : Program} {W : World} {H : Type} {enc : TypeId × Value → H}
theorem read_wide {k : Nat} {t : TypeId} {ag : Bool} {el : List CT} (ht : tyC P (k + 1) t = some (ag, el)) {v : Value} {d : DataW H} {ps : List MemPlace} (h : DataW.Trod enc P W 0 (fun _ => true) true t v d ps) {r : Reach} {b : Nat}
    (hw : Value.okWide P W r b t v) : ∃ x, Rep W (Old W) false x v Emp ∧ okV ag el x := by
  have ht0 := ht
  simp only [tyC] at ht
  split at ht
  · rename_i hu
    simp only [Option.some.injEq, Prod.mk.injEq] at ht
    obtain ⟨rfl, rfl⟩ := ht
    obtain ⟨b, rfl⟩ := okWide_bool hu hw
    exact read_arg ht0 (fun _ => rfl) h (by simp [Value.oneCell'])
  · rename_i hu
    simp only [Option.some.injEq, Prod.mk.injEq] at ht
    obtain ⟨rfl, rfl⟩ := ht
    obtain ⟨b, rfl⟩ := okWide_int hu hw
    exact read_arg ht0 (fun _ => rfl) h (by simp [Value.oneCell'])
  · rename_i hu
    simp only [Option.some.injEq, Prod.mk.injEq] at ht
    obtain ⟨rfl, rfl⟩ := ht
    obtain ⟨b, rfl⟩ := okWide_string hu hw
    exact read_arg ht0 (fun _ => rfl) h (by simp [Value.oneCell'])
  · rename_i hu
    split at ht
    · split at ht
      · simp only [Option.some.injEq, Prod.mk.injEq] at ht
        obtain ⟨rfl, rfl⟩ := ht
        obtain ⟨a, l, c, rfl⟩ := okWide_slice hu hw
        exact read_arg ht0 (fun _ => rfl) h (by simp [Value.oneCell'])
      · cases ht
    · cases ht
  · rename_i hu
    split at ht
    · split at ht
      · simp only [Option.some.injEq, Prod.mk.injEq] at ht
        obtain ⟨rfl, rfl⟩ := ht
        obtain ⟨cs, rfl, _⟩ := okWide_struct hu hw
        exact read_arg ht0 (fun h => by cases h) h (by simp)
      · cases ht
    · cases ht
  · cases ht
end
end Go.Ab
