/- The law FnEnsemble holds for every input: its call returns true, and its arguments read afterwards as they read before. Nothing narrows it. -/
import Derived.Test.YtakpgohimiidpaaRows
import Derived.Test.YtakpgohimiidpaaLW
import Derived.WalkKit
import Derived.ProofKit
import Derived.OpenShut
import Derived.ShutString
import Derived.ChangeOld
import Derived.Below
import Derived.SizedLaws
import Derived.Carry
namespace Go.Proofs.Ytakpgohimiidpaa.fnEnsemble
open Go.ChangeShapes Go.WideShapes Go.ChangeAt Go.RowKit
set_option linter.unusedVariables false
theorem own : ownKnob Try.prog.godebug = none := by kernel_rfl
theorem laidOut : laidOutB Try.prog = true := by kernel_rfl
theorem ty0 : Go.Ab.tyC Try.prog (5 + 1) 22 = some (false, [.sl 1 false [.int .u8]]) := by kernel_rfl
theorem rec0 : Try.prog.readableRec 22 = true := by kernel_rfl
theorem has0 : 22 < Try.prog.types.size := of_decide_eq_true (by kernel_rfl)
theorem ty1 : Go.Ab.tyC Try.prog (5 + 1) 22 = some (false, [.sl 1 false [.int .u8]]) := by kernel_rfl
theorem rec1 : Try.prog.readableRec 22 = true := by kernel_rfl
theorem has1 : 22 < Try.prog.types.size := of_decide_eq_true (by kernel_rfl)
set_option maxRecDepth 100000 in
theorem lifted (os : Os) (started : os.Started) (H : Type) (enc : TypeId × Value → H) :
    ReturnsInHanded {} Try.checked os 3 .any (Rows.fnEnsembleSpec.pre6 enc Try.prog Try.f3 Rows.fnEnsembleRow.domain false) (Rows.fnEnsembleSpec.post enc Try.prog Try.f3 false true false false) := by
  refine returnsInHanded_of_change_sized (C := Try.checked) own started (by kernel_rfl) Try.func3
    (ChangeSpec.witness6 (enc := enc) (C := Try.checked) false ⟨#[], #[.slice none 0 0, .slice none 0 0], []⟩ 8 (by kernel_rfl) (by kernel_rfl) (by kernel_rfl) (by kernel_rfl)) ?_
  intro W base args ds gs before hval0 hW hcnd hsz0 _
  have hval : ∀ (j : Nat) t v, Try.f3.params[j]? = some t → args[j]? = some v → Value.okWide Try.prog W .any base t v := hval0
  have hW' := hW
  obtain ⟨p, q, hA0, hV, rfl, hfz, hnd⟩ := hW
  have hA : DataW.TrodAll enc Try.prog W 0 (fun _ => true) true Try.f3.params.toList args.toList ds p := hA0
  rw [Try.params3] at hA hval
  obtain ⟨v0, vs0, d0, ds0, p0, q0, hargs, rfl, rfl, h0, r0⟩ := trodAll_cons hA
  obtain ⟨v1, vs1, d1, ds1, p1, q1, rfl, rfl, rfl, h1, r1⟩ := trodAll_cons r0
  obtain ⟨rfl, rfl, rfl⟩ := trodAll_nil r1
  obtain rfl : args = #[v0, v1] := by cases args; simp_all
  obtain ⟨rfl, rfl⟩ := trodVars_none hV
  obtain ⟨x0, e0, o0⟩ := Go.Ab.read_wide ty0 h0 (hval 0 22 v0 rfl rfl)
  have lt0 : ∀ x ∈ p0, x.block < W.heap.size := by obtain ⟨m, hm⟩ := h0; exact DataW.trod_lt m _ _ _ hm
  obtain ⟨x1, e1, o1⟩ := Go.Ab.read_wide ty1 h1 (hval 1 22 v1 rfl rfl)
  have lt1 : ∀ x ∈ p1, x.block < W.heap.size := by obtain ⟨m, hm⟩ := h1; exact DataW.trod_lt m _ _ _ hm
  clear hA0 hval0 hsz0
  refine (Go.Ab.con_law (Go.Ab.law3 x0 x1 o0 o1) (fun _ _ => trivial) (.cons e0 (.cons e1 .nil (fun _ h => h.elim) (fun _ h => h) (fun _ h => h)) (fun _ h => h.elim) (fun _ h => h) (fun _ h => h))).mono fun e W' ⟨he, bel⟩ => ?_
  subst he
  exact ⟨_, rfl, _, _, _, [], _, [], hW', trodAll_mk1 (shut_bool Try.underlying4 _), (trodAll_cons_mk (Below.trod laidOut rec0 has0 h0 bel lt0) (trodAll_cons_mk (Below.trod laidOut rec1 has1 h1 bel lt1) trodAll_mk0)), rfl, bel.frame _, fun h => by cases h⟩
theorem over : Rows.fnEnsembleRow.holds Try.pinned (OpenSpec.ofChange Rows.fnEnsembleSpec) :=
  OpenClaim.holds_of_wide 3 Try.f3 rfl rfl rfl rfl rfl rfl rfl ⟨rfl, rfl, rfl, rfl, rfl⟩ rfl rfl rfl rfl rfl (by kernel_rfl) Try.func3 (by kernel_rfl)
    (of_decide_eq_true (by kernel_rfl)) (by unfold Func.isWrapper; first | (rw [if_pos (by decide +kernel)]; kernel_rfl) | (rw [if_neg (by decide +kernel)]; exact ⟨rfl, rfl⟩))
    (fun os started H enc _ => lifted os started H enc)
theorem proved : Rows.FnEnsembleSaid := over
#print axioms proved
end Go.Proofs.Ytakpgohimiidpaa.fnEnsemble
namespace Go.Proofs.Ytakpgohimiidpaa
theorem fnEnsemble_holds : Rows.FnEnsembleSaid := fnEnsemble.proved
end Go.Proofs.Ytakpgohimiidpaa
