import Derived.Test.YtpnmhfbiaajaeaaGreatDoorA23
set_option linter.unusedVariables false
set_option linter.unusedSimpArgs false
namespace Go.Ab
open Go.RowKit
theorem con_law {P : Program} {f : FuncId} {Vs : List V} {vs : List Value} {W : World} (h : Con P f Vs (.v (.bool true))) (ht : ∀ w' : World, (∀ g, g < W.heap.size → w'.heap[g]? = W.heap[g]?) → TabQ w') (hr : Reps W (fun g => g < W.heap.size) false Vs vs Emp) :
  Calls P f vs.toArray W fun e W' => e = .returned (.bool true) ∧ Below W.heap.size W W' := by
 refine (h W _ vs ⟨fun g h => h, W.heap.size, fun g h => h, ht⟩ hr).mono ?_
 rintro e W' ⟨v, S, D', rfl, h1, _, _, _, hb⟩
 cases h1 with
 | one h1 => cases h1 with
  | one h1 => cases h1 with
   | val h1 => cases h1; exact ⟨rfl, hb⟩
end Go.Ab
