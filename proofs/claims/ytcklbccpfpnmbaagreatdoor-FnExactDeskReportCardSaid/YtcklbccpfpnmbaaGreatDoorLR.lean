/- The law FnExactDeskReport holds for every input: its call returns true, and its arguments read afterwards as they read before; the listed variables start as the program's text lays them (the card ties them to it). -/
import Derived.Test.YtcklbccpfpnmbaaGreatDoorRows
import Derived.Test.YtcklbccpfpnmbaaGreatDoorCards
import Derived.Test.YtcklbccpfpnmbaaGreatDoorTie
import Derived.Test.YtcklbccpfpnmbaaGreatDoorLW
import Derived.Test.YtcklbccpfpnmbaaGreatDoorA31
import Derived.WalkKit
import Derived.ProofKit
import Derived.OpenShut
import Derived.ShutString
import Derived.ChangeOld
import Derived.Below
import Derived.SizedLaws
import Derived.Carry
import Derived.Lay
import Derived.LaidOnce
import Derived.SevenTiedAt
namespace Go.Proofs.YtcklbccpfpnmbaaGreatDoor.fnExactDeskReport
open Go.ChangeShapes Go.WideShapes Go.ChangeAt Go.RowKit
set_option linter.unusedVariables false
theorem own : ownKnob Tryz.prog.godebug = none := by kernel_rfl
theorem laidOut : laidOutB Tryz.prog = true := by kernel_rfl
theorem ty0 : Go.Ab.tyC Tryz.prog (5 + 1) 36 = some (true, [.str, .sl 1 false [.int .i64], .sl 1 false [.int .i64], .int .i64, .int .i64, .sl 1 false [.sl 1 false [.int .i64]], .sl 2 true [.int .i64, .int .i64], .str, .sl 2 true [.int .i64, .int .i64], .sl 1 false [.sl 1 false [.int .i64]], .sl 3 true [.str, .int .i64, .int .i64], .sl 2 true [.int .i64, .int .i64], .sl 6 true [.str, .int .i64, .int .i64, .int .i64, .int .i64, .int .i64], .sl 5 true [.int .i64, .str, .str, .int .i64, .int .i64], .sl 3 true [.str, .int .i64, .sl 1 false [.str]]]) := by kernel_rfl
theorem rec0 : Tryz.prog.readableRec 36 = true := by kernel_rfl
theorem has0 : 36 < Tryz.prog.types.size := of_decide_eq_true (by kernel_rfl)
def laidL : List (String × DataW Unit) := [("math/bits.deBruijn32tab", Rows.laid_math_bits_deBruijn32tab), ("math/bits.deBruijn64tab", Rows.laid_math_bits_deBruijn64tab), ("internal/strconv.uint64pow10", Rows.laid_internal_strconv_uint64pow10)]
theorem tabs {W : World} (hL : laidMetH Tryz.prog laidL W) (hS : W.ShapedOpen Tryz.prog) : ∀ w' : World, (∀ g, g < W.heap.size → w'.heap[g]? = W.heap[g]?) → Go.Ab.TabQ w' := by
  intro w' hw
  rw [MakeChecks.laidMetH_plain _ _ _ (by kernel_rfl)] at hL
  have f_pow : ∃ ty fz, w'.heap[0]? = some (.cells (Go.Lib.pow10Tab.map fun z => Value.int .u64 z).toArray ty fz) := by
    have e : (Rows.laid_internal_strconv_uint64pow10 : DataW Unit) = Lib.tabData .u64 Lib.pow10Tab := by kernel_rfl
    have h : laidMet Tryz.prog (((("internal/strconv.uint64pow10", Rows.laid_internal_strconv_uint64pow10) : String × DataW Unit)) :: []) W := (laidMet.tail (x := ("math/bits.deBruijn64tab", Rows.laid_math_bits_deBruijn64tab)) (r := [("internal/strconv.uint64pow10", Rows.laid_internal_strconv_uint64pow10)]) (laidMet.tail (x := ("math/bits.deBruijn32tab", Rows.laid_math_bits_deBruijn32tab)) (r := [("math/bits.deBruijn64tab", Rows.laid_math_bits_deBruijn64tab), ("internal/strconv.uint64pow10", Rows.laid_internal_strconv_uint64pow10)]) hL))
    rw [e] at h
    have hg : Tryz.prog.globalNamed "internal/strconv.uint64pow10" = some 0 := by kernel_rfl
    obtain ⟨ty, fz, hc⟩ := Go.Ab.tab_row hg (Lib.tabIs_of_head hg (show (Tryz.prog.globals[0]?).map (·.type) = some 214 by kernel_rfl) (show Tryz.prog.underlying 214 = some (.array 20 202) by kernel_rfl) (show Tryz.prog.underlying 202 = some (.int .u64) by kernel_rfl) (by kernel_rfl) (by kernel_rfl) h)
    exact ⟨ty, fz, Go.Ab.keep_get hw hc⟩
  exact ⟨f_pow⟩
set_option maxRecDepth 100000 in
theorem lifted (os : Os) (started : os.Started) (H : Type) (enc : TypeId × Value → H) :
    ReturnsInHanded {} Tryz.checked os 3 .any (fun w args => (Rows.fnExactDeskReportSpec.pre enc Tryz.prog Tryz.f3 [] false w args ∧ laidMetH Tryz.prog laidL w) ∧ sizedMet enc Tryz.prog Tryz.f3 (OpenSpec.ofChange Rows.fnExactDeskReportSpec) false w args) (Rows.fnExactDeskReportSpec.post enc Tryz.prog Tryz.f3 false true false false) := by
  refine Go.Ab.handed_laid (C := Tryz.checked) (X := (fun w _ => laidMetH Tryz.prog laidL w)) (fun _ _ _ hh h => h.of_heap hh) own started (by kernel_rfl) Tryz.func3
    (ChangeSpec.witness_shaped (enc := enc) (C := Tryz.checked) (os := os) (X := (fun w _ => laidMetH Tryz.prog laidL w)) false (World.laidAll Tryz.prog os laidL) #[.agg #[.string ByteArray.empty, .slice none 0 0, .slice none 0 0, .int .i64 0, .int .i64 0, .slice none 0 0, .slice none 0 0, .string ByteArray.empty, .slice none 0 0, .slice none 0 0, .slice none 0 0, .slice none 0 0, .slice none 0 0, .slice none 0 0, .slice none 0 0]] 8 (World.laidAll_os _ _ _)
      (World.shaped_of_ZipB (by kernel_rfl) (by kernel_rfl)) (by kernel_rfl) (by kernel_rfl) (by kernel_rfl)
      (by rw [MakeChecks.laidMetH_plain _ _ _ (by kernel_rfl)]; exact laidMet_laidAll _ (by kernel_rfl) (by kernel_rfl))) ?_
  intro W base args ds gs before hval0 hW hL hS
  have hval : ∀ (j : Nat) t v, Tryz.f3.params[j]? = some t → args[j]? = some v → Value.okWide Tryz.prog W .any base t v := hval0
  have hW' := hW
  obtain ⟨p, q, hA0, hV, rfl, hfz, hnd⟩ := hW
  have hA : DataW.TrodAll enc Tryz.prog W 0 (fun _ => true) true Tryz.f3.params.toList args.toList ds p := hA0
  rw [Tryz.params3] at hA hval
  obtain ⟨v0, vs0, d0, ds0, p0, q0, hargs, rfl, rfl, h0, r0⟩ := trodAll_cons hA
  obtain ⟨rfl, rfl, rfl⟩ := trodAll_nil r0
  obtain rfl : args = #[v0] := by cases args; simp_all
  obtain ⟨rfl, rfl⟩ := trodVars_none hV
  obtain ⟨x0, e0, o0⟩ := Go.Ab.read_wide ty0 h0 (hval 0 36 v0 rfl rfl)
  have lt0 : ∀ x ∈ p0, x.block < W.heap.size := by obtain ⟨m, hm⟩ := h0; exact DataW.trod_lt m _ _ _ hm
  clear hA0 hval0
  refine (Go.Ab.con_law (Go.Ab.law3 x0 o0) (tabs hL hS) (.cons e0 .nil (fun _ h => h.elim) (fun _ h => h) (fun _ h => h))).mono fun e W' ⟨he, bel⟩ => ?_
  subst he
  exact ⟨_, rfl, _, _, _, [], _, [], hW', trodAll_mk1 (shut_bool Tryz.underlying4 _), (trodAll_cons_mk (Below.trod laidOut rec0 has0 h0 bel lt0) trodAll_mk0), rfl, bel.frame _, fun h => by cases h⟩
theorem over : Rows.FnExactDeskReportSaid :=
  OpenClaim.holds_of_wide 3 Tryz.f3 rfl rfl rfl rfl rfl rfl rfl ⟨rfl, rfl, rfl, rfl, rfl⟩ rfl rfl rfl rfl rfl (by kernel_rfl) Tryz.func3 (by kernel_rfl)
    (of_decide_eq_true (by kernel_rfl)) (by unfold Func.isWrapper; first | (rw [if_pos (by decide +kernel)]; kernel_rfl) | (rw [if_neg (by decide +kernel)]; exact ⟨rfl, rfl⟩))
    (fun os started H enc _ => lifted os started H enc)
theorem card : Rows.FnExactDeskReportCardSaid :=
  Claim7.holds_tied_plain_at .later [] [.data, .data, .data] true (true, "7afd71d880a11ae4aabc4835e5d031565bd793e93c57e18642c4260b22cb0f21") false over (fun _ h => by cases h) (by kernel_rfl) (fun _ h => by cases h) fnExactDeskReport_row_tie rfl ⟨rfl, rfl⟩ (by kernel_rfl) rfl
    (fun f fn hf hfn => by
      obtain rfl : f = 3 := Option.some.inj ((show Tryz.prog.funcNamed "loop.example/g01033/laws.FnExactDeskReport" = some 3 by kernel_rfl).symm.trans hf) |>.symm
      obtain rfl : fn = Tryz.f3 := (Option.some.inj (Tryz.func3.symm.trans hfn)).symm
      exact ⟨by kernel_rfl, fun j t ht => by
        rw [Tryz.params3] at ht
        have hm : t ∈ [36] := by simpa using Array.mem_of_getElem? ht
        have hall : ([36].all fun u => !Tryz.prog.wantsStandIn u) = true := by kernel_rfl
        exact (show Tryz.prog.wantsStandIn t = false by simpa using List.all_eq_true.1 hall t hm)⟩)
    (by kernel_rfl)
#print axioms card
end Go.Proofs.YtcklbccpfpnmbaaGreatDoor.fnExactDeskReport
namespace Go.Proofs.YtcklbccpfpnmbaaGreatDoor
theorem fnExactDeskReport_holds : Rows.FnExactDeskReportCardSaid := fnExactDeskReport.card
end Go.Proofs.YtcklbccpfpnmbaaGreatDoor
