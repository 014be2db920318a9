/- The law FnExactValidDesk holds for every input: its call returns true, and its arguments read afterwards as they read before. Nothing narrows it. -/
import Derived.Test.YtdedhldojkdceaaGreatRows
import Derived.Test.YtdedhldojkdceaaGreatLW
import Derived.WalkKit
import Derived.ProofKit
import Derived.OpenShut
import Derived.ShutString
import Derived.ChangeOld
import Derived.Below
import Derived.SizedLaws
import Derived.Carry
namespace Go.Proofs.YtdedhldojkdceaaGreat.fnExactValidDesk
open Go.ChangeShapes Go.WideShapes Go.ChangeAt Go.RowKit
set_option linter.unusedVariables false
theorem own : ownKnob Tryz.prog.godebug = none := by kernel_rfl
theorem laidOut : laidOutB Tryz.prog = true := by kernel_rfl
theorem ty0 : Go.Ab.tyC Tryz.prog (5 + 1) 36 = some (true, [.str, .sl 1 false [.int .i64], .sl 1 false [.int .i64], .int .i64, .int .i64, .sl 1 false [.sl 1 false [.int .i64]], .sl 2 true [.int .i64, .int .i64], .str, .sl 2 true [.int .i64, .int .i64], .sl 1 false [.sl 1 false [.int .i64]], .sl 3 true [.str, .int .i64, .int .i64], .sl 2 true [.int .i64, .int .i64], .sl 6 true [.str, .int .i64, .int .i64, .int .i64, .int .i64, .int .i64], .sl 5 true [.int .i64, .str, .str, .int .i64, .int .i64], .sl 3 true [.str, .int .i64, .sl 1 false [.str]]]) := by kernel_rfl
theorem rec0 : Tryz.prog.readableRec 36 = true := by kernel_rfl
theorem has0 : 36 < Tryz.prog.types.size := of_decide_eq_true (by kernel_rfl)
set_option maxRecDepth 100000 in
theorem lifted (os : Os) (started : os.Started) (H : Type) (enc : TypeId × Value → H) :
    ReturnsInHanded {} Tryz.checked os 3 .any (Rows.fnExactValidDeskSpec.pre6 enc Tryz.prog Tryz.f3 Rows.fnExactValidDeskRow.domain false) (Rows.fnExactValidDeskSpec.post enc Tryz.prog Tryz.f3 false true false false) := by
  refine returnsInHanded_of_change_sized (C := Tryz.checked) own started (by kernel_rfl) Tryz.func3
    (ChangeSpec.witness6 (enc := enc) (C := Tryz.checked) false ⟨#[], #[.agg #[.string ByteArray.empty, .slice none 0 0, .slice none 0 0, .int .i64 0, .int .i64 0, .slice none 0 0, .slice none 0 0, .string ByteArray.empty, .slice none 0 0, .slice none 0 0, .slice none 0 0, .slice none 0 0, .slice none 0 0, .slice none 0 0, .slice none 0 0]], []⟩ 8 (by kernel_rfl) (by kernel_rfl) (by kernel_rfl) (by kernel_rfl)) ?_
  intro W base args ds gs before hval0 hW hcnd hsz0 _
  have hval : ∀ (j : Nat) t v, Tryz.f3.params[j]? = some t → args[j]? = some v → Value.okWide Tryz.prog W .any base t v := hval0
  have hW' := hW
  obtain ⟨p, q, hA0, hV, rfl, hfz, hnd⟩ := hW
  have hA : DataW.TrodAll enc Tryz.prog W 0 (fun _ => true) true Tryz.f3.params.toList args.toList ds p := hA0
  rw [Tryz.params3] at hA hval
  obtain ⟨v0, vs0, d0, ds0, p0, q0, hargs, rfl, rfl, h0, r0⟩ := trodAll_cons hA
  obtain ⟨rfl, rfl, rfl⟩ := trodAll_nil r0
  obtain rfl : args = #[v0] := by cases args; simp_all
  obtain ⟨rfl, rfl⟩ := trodVars_none hV
  obtain ⟨x0, e0, o0⟩ := Go.Ab.read_wide ty0 h0 (hval 0 36 v0 rfl rfl)
  have lt0 : ∀ x ∈ p0, x.block < W.heap.size := by obtain ⟨m, hm⟩ := h0; exact DataW.trod_lt m _ _ _ hm
  clear hA0 hval0 hsz0
  refine (Go.Ab.con_law (Go.Ab.law3 x0 o0) (fun _ _ => trivial) (.cons e0 .nil (fun _ h => h.elim) (fun _ h => h) (fun _ h => h))).mono fun e W' ⟨he, bel⟩ => ?_
  subst he
  exact ⟨_, rfl, _, _, _, [], _, [], hW', trodAll_mk1 (shut_bool Tryz.underlying4 _), (trodAll_cons_mk (Below.trod laidOut rec0 has0 h0 bel lt0) trodAll_mk0), rfl, bel.frame _, fun h => by cases h⟩
theorem over : Rows.fnExactValidDeskRow.holds Tryz.pinned (OpenSpec.ofChange Rows.fnExactValidDeskSpec) :=
  OpenClaim.holds_of_wide 3 Tryz.f3 rfl rfl rfl rfl rfl rfl rfl ⟨rfl, rfl, rfl, rfl, rfl⟩ rfl rfl rfl rfl rfl (by kernel_rfl) Tryz.func3 (by kernel_rfl)
    (of_decide_eq_true (by kernel_rfl)) (by unfold Func.isWrapper; first | (rw [if_pos (by decide +kernel)]; kernel_rfl) | (rw [if_neg (by decide +kernel)]; exact ⟨rfl, rfl⟩))
    (fun os started H enc _ => lifted os started H enc)
theorem proved : Rows.FnExactValidDeskSaid := over
#print axioms proved
end Go.Proofs.YtdedhldojkdceaaGreat.fnExactValidDesk
namespace Go.Proofs.YtdedhldojkdceaaGreat
theorem fnExactValidDesk_holds : Rows.FnExactValidDeskSaid := fnExactValidDesk.proved
end Go.Proofs.YtdedhldojkdceaaGreat
