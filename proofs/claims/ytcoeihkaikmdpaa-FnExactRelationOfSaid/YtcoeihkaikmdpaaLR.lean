/- The law FnExactRelationOf holds for every input: its call returns true, and its arguments read afterwards as they read before. Nothing narrows it. -/
import Derived.Test.YtcoeihkaikmdpaaRows
import Derived.Test.YtcoeihkaikmdpaaLW
import Derived.WalkKit
import Derived.ProofKit
import Derived.OpenShut
import Derived.ShutString
import Derived.ChangeOld
import Derived.Below
import Derived.SizedLaws
import Derived.Carry
namespace Go.Proofs.Ytcoeihkaikmdpaa.fnExactRelationOf
open Go.ChangeShapes Go.WideShapes Go.ChangeAt Go.RowKit
set_option linter.unusedVariables false
theorem own : ownKnob Try.prog.godebug = none := by kernel_rfl
theorem laidOut : laidOutB Try.prog = true := by kernel_rfl
theorem ty0 : Go.Ab.tyC Try.prog (5 + 1) 22 = some (false, [.sl 3 true [.str, .int .i64, .sl 1 false [.str]]]) := by kernel_rfl
theorem rec0 : Try.prog.readableRec 22 = true := by kernel_rfl
theorem has0 : 22 < Try.prog.types.size := of_decide_eq_true (by kernel_rfl)
theorem ty1 : Go.Ab.tyC Try.prog (5 + 1) 9 = some (false, [.str]) := by kernel_rfl
theorem rec1 : Try.prog.readableRec 9 = true := by kernel_rfl
theorem has1 : 9 < Try.prog.types.size := of_decide_eq_true (by kernel_rfl)
theorem ty2 : Go.Ab.tyC Try.prog (5 + 1) 9 = some (false, [.str]) := by kernel_rfl
theorem rec2 : Try.prog.readableRec 9 = true := by kernel_rfl
theorem has2 : 9 < Try.prog.types.size := of_decide_eq_true (by kernel_rfl)
set_option maxRecDepth 100000 in
theorem lifted (os : Os) (started : os.Started) (H : Type) (enc : TypeId × Value → H) :
    ReturnsInHanded {} Try.checked os 4 .any (Rows.fnExactRelationOfSpec.pre6 enc Try.prog Try.f4 Rows.fnExactRelationOfRow.domain false) (Rows.fnExactRelationOfSpec.post enc Try.prog Try.f4 false true false false) := by
  refine returnsInHanded_of_change_sized (C := Try.checked) own started (by kernel_rfl) Try.func4
    (ChangeSpec.witness6 (enc := enc) (C := Try.checked) false ⟨#[], #[.slice none 0 0, .string ByteArray.empty, .string ByteArray.empty], []⟩ 8 (by kernel_rfl) (by kernel_rfl) (by kernel_rfl) (by kernel_rfl)) ?_
  intro W base args ds gs before hval0 hW hcnd hsz0 _
  have hval : ∀ (j : Nat) t v, Try.f4.params[j]? = some t → args[j]? = some v → Value.okWide Try.prog W .any base t v := hval0
  have hW' := hW
  obtain ⟨p, q, hA0, hV, rfl, hfz, hnd⟩ := hW
  have hA : DataW.TrodAll enc Try.prog W 0 (fun _ => true) true Try.f4.params.toList args.toList ds p := hA0
  rw [Try.params4] at hA hval
  obtain ⟨v0, vs0, d0, ds0, p0, q0, hargs, rfl, rfl, h0, r0⟩ := trodAll_cons hA
  obtain ⟨v1, vs1, d1, ds1, p1, q1, rfl, rfl, rfl, h1, r1⟩ := trodAll_cons r0
  obtain ⟨v2, vs2, d2, ds2, p2, q2, rfl, rfl, rfl, h2, r2⟩ := trodAll_cons r1
  obtain ⟨rfl, rfl, rfl⟩ := trodAll_nil r2
  obtain rfl : args = #[v0, v1, v2] := by cases args; simp_all
  obtain ⟨rfl, rfl⟩ := trodVars_none hV
  obtain ⟨x0, e0, o0⟩ := Go.Ab.read_wide ty0 h0 (hval 0 22 v0 rfl rfl)
  have lt0 : ∀ x ∈ p0, x.block < W.heap.size := by obtain ⟨m, hm⟩ := h0; exact DataW.trod_lt m _ _ _ hm
  obtain ⟨x1, e1, o1⟩ := Go.Ab.read_wide ty1 h1 (hval 1 9 v1 rfl rfl)
  have lt1 : ∀ x ∈ p1, x.block < W.heap.size := by obtain ⟨m, hm⟩ := h1; exact DataW.trod_lt m _ _ _ hm
  obtain ⟨x2, e2, o2⟩ := Go.Ab.read_wide ty2 h2 (hval 2 9 v2 rfl rfl)
  have lt2 : ∀ x ∈ p2, x.block < W.heap.size := by obtain ⟨m, hm⟩ := h2; exact DataW.trod_lt m _ _ _ hm
  clear hA0 hval0 hsz0
  refine (Go.Ab.con_law (Go.Ab.law4 x0 x1 x2 o0 o1 o2) (fun _ _ => trivial) (.cons e0 (.cons e1 (.cons e2 .nil (fun _ h => h.elim) (fun _ h => h) (fun _ h => h)) (fun _ h => h.elim) (fun _ h => h) (fun _ h => h)) (fun _ h => h.elim) (fun _ h => h) (fun _ h => h))).mono fun e W' ⟨he, bel⟩ => ?_
  subst he
  exact ⟨_, rfl, _, _, _, [], _, [], hW', trodAll_mk1 (shut_bool Try.underlying4 _), (trodAll_cons_mk (Below.trod laidOut rec0 has0 h0 bel lt0) (trodAll_cons_mk (Below.trod laidOut rec1 has1 h1 bel lt1) (trodAll_cons_mk (Below.trod laidOut rec2 has2 h2 bel lt2) trodAll_mk0))), rfl, bel.frame _, fun h => by cases h⟩
theorem over : Rows.fnExactRelationOfRow.holds Try.pinned (OpenSpec.ofChange Rows.fnExactRelationOfSpec) :=
  OpenClaim.holds_of_wide 4 Try.f4 rfl rfl rfl rfl rfl rfl rfl ⟨rfl, rfl, rfl, rfl, rfl⟩ rfl rfl rfl rfl rfl (by kernel_rfl) Try.func4 (by kernel_rfl)
    (of_decide_eq_true (by kernel_rfl)) (by unfold Func.isWrapper; first | (rw [if_pos (by decide +kernel)]; kernel_rfl) | (rw [if_neg (by decide +kernel)]; exact ⟨rfl, rfl⟩))
    (fun os started H enc _ => lifted os started H enc)
theorem proved : Rows.FnExactRelationOfSaid := over
#print axioms proved
end Go.Proofs.Ytcoeihkaikmdpaa.fnExactRelationOf
namespace Go.Proofs.Ytcoeihkaikmdpaa
theorem fnExactRelationOf_holds : Rows.FnExactRelationOfSaid := fnExactRelationOf.proved
end Go.Proofs.Ytcoeihkaikmdpaa
