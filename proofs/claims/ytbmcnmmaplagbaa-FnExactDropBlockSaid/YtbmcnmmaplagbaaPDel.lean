/- Parts of lists taken away (own text). -/
import Derived.Test.YtbmcnmmaplagbaaB5
import Derived.Test.YtbmcnmmaplagbaaPL
set_option linter.unusedVariables false
set_option linter.unusedSimpArgs false
namespace Go.Ab
open Go.RowKit
theorem take_pre {α : Type} {A B : List α} {n : Nat} (h : A.length = n) : (A ++ B).take n = A := by
  subst h; simp
theorem del_sub {α : Type} {A : List α} {i j : Nat} (hij : i ≤ j) (hj : j ≤ A.length) (z : α) :
    sub (clrL (inL A (i : Int) (j : Int) (A.length : Int)) ((0 : Int) + (((i : Int) + ((A.length : Int) - (j : Int))) - (0 : Int))) ((0 : Int) + (A.length : Int)) z) (0 : Int) ((i : Int) + ((A.length : Int) - (j : Int))) = A.take i ++ A.drop j := by
  have e1 : ((i : Int) + ((A.length : Int) - (j : Int))).toNat = i + (A.length - j) := by omega
  have e2 : ((0 : Int) + (((i : Int) + ((A.length : Int) - (j : Int))) - (0 : Int))).toNat = i + (A.length - j) := by omega
  have hB : (A.take i ++ A.drop j).length = i + (A.length - j) := by simp; omega
  unfold sub clrL inL sub
  rw [e1, e2]
  simp only [Int.toNat_natCast, List.take_length]
  rw [take_pre hB, List.append_assoc, take_pre hB]
  rfl
end Go.Ab
