/- Walks (printed by auto.py, a program of this session's own). -/
import Derived.Test.YtlboickhkhbffaaU3
import Derived.Test.YtlboickhkhbffaaProg
import Derived.KernelRfl
import Derived.Test.YtlboickhkhbffaaSQ
set_option linter.unusedVariables false
set_option linter.unusedSimpArgs false
set_option maxRecDepth 8000
set_option maxHeartbeats 8000000
namespace Go.Ab
open Go.RowKit Go.Proofs

def c12 : MC := (.seq (.reg [rg 2 (.f (.box (.t 0))), rg 3 (.f (.box (.t 1))), rg 4 (.p true (.mv (.c (.bool false))))]) (.seq (.seq (.reg [rg 5 (.p true (.fad (.t 2) 0)), rg 6 (.p true (.ld (.t 5) 6 true)), rg 7 (.p true (.fad (.t 3) 0)), rg 8 (.p true (.ld (.t 7) 6 true)), rg 9 (.call true 53 [(.t 6), (.t 8)]), rg 10 (.p true (.not (.t 9)))]) (.cond (.t 10) (.seq (.reg [rg 4 (.p true (.mv (.c (.bool false))))]) .ret) .skip)) (.seq (.seq (.reg [rg 11 (.p true (.fad (.t 2) 6)), rg 12 (.p true (.ld (.t 11) 1 false)), rg 13 (.p true (.fad (.t 3) 6)), rg 14 (.p true (.ld (.t 13) 1 false)), rg 15 (.p true (.bin .neq (.t 12) (.t 14)))]) (.cond (.t 15) (.seq (.reg [rg 4 (.p true (.mv (.c (.bool false))))]) .ret) .skip)) (.seq (.seq (.reg [rg 16 (.p true (.fad (.t 2) 7)), rg 17 (.p true (.ld (.t 16) 1 false)), rg 18 (.p true (.fad (.t 3) 7)), rg 19 (.p true (.ld (.t 18) 1 false)), rg 20 (.p true (.bin .neq (.t 17) (.t 19)))]) (.cond (.t 20) (.seq (.reg [rg 4 (.p true (.mv (.c (.bool false))))]) .ret) .skip)) (.seq (.seq (.reg [rg 21 (.p true (.fad (.t 2) 8)), rg 22 (.p true (.ld (.t 21) 1 false)), rg 23 (.p true (.fad (.t 3) 8)), rg 24 (.p true (.ld (.t 23) 1 false)), rg 25 (.call true 54 [(.t 22), (.t 24)]), rg 26 (.p true (.not (.t 25)))]) (.cond (.t 26) (.seq (.reg [rg 4 (.p true (.mv (.c (.bool false))))]) .ret) .skip)) (.seq (.seq (.reg [rg 27 (.p true (.fad (.t 2) 9)), rg 28 (.p true (.ld (.t 27) 3 true)), rg 29 (.p true (.fad (.t 3) 9)), rg 30 (.p true (.ld (.t 29) 3 true)), rg 31 (.call true 55 [(.t 28), (.t 30)]), rg 32 (.p true (.not (.t 31)))]) (.cond (.t 32) (.seq (.reg [rg 4 (.p true (.mv (.c (.bool false))))]) .ret) .skip)) (.seq (.seq (.reg [rg 33 (.p true (.fad (.t 2) 12)), rg 34 (.p true (.ld (.t 33) 1 false)), rg 35 (.p true (.fad (.t 3) 12)), rg 36 (.p true (.ld (.t 35) 1 false)), rg 37 (.p true (.bin .neq (.t 34) (.t 36)))]) (.cond (.t 37) (.seq (.reg [rg 4 (.p true (.mv (.c (.bool false))))]) .ret) .skip)) (.seq (.seq (.reg [rg 38 (.p true (.fad (.t 2) 13)), rg 39 (.p true (.ld (.t 38) 1 false)), rg 40 (.p true (.fad (.t 3) 13)), rg 41 (.p true (.ld (.t 40) 1 false)), rg 42 (.p true (.bin .neq (.t 39) (.t 41)))]) (.cond (.t 42) (.seq (.reg [rg 4 (.p true (.mv (.c (.bool false))))]) .ret) .skip)) (.seq (.seq (.reg [rg 43 (.p true (.fad (.t 2) 14)), rg 44 (.p true (.ld (.t 43) 1 false)), rg 45 (.p true (.fad (.t 3) 14)), rg 46 (.p true (.ld (.t 45) 1 false)), rg 47 (.p true (.bin .neq (.t 44) (.t 46)))]) (.cond (.t 47) (.seq (.reg [rg 4 (.p true (.mv (.c (.bool false))))]) .ret) .skip)) (.seq (.seq (.reg [rg 48 (.p true (.fad (.t 2) 15)), rg 49 (.p true (.ld (.t 48) 1 false)), rg 50 (.p true (.fad (.t 3) 15)), rg 51 (.p true (.ld (.t 50) 1 false)), rg 52 (.p true (.bin .neq (.t 49) (.t 51)))]) (.cond (.t 52) (.seq (.reg [rg 4 (.p true (.mv (.c (.bool false))))]) .ret) .skip)) (.seq (.seq (.reg [rg 53 (.p true (.fad (.t 2) 16)), rg 54 (.p true (.ld (.t 53) 1 false)), rg 55 (.p true (.fad (.t 3) 16)), rg 56 (.p true (.ld (.t 55) 1 false)), rg 57 (.p true (.bin .neq (.t 54) (.t 56)))]) (.cond (.t 57) (.seq (.reg [rg 4 (.p true (.mv (.c (.bool false))))]) .ret) .skip)) (.seq (.seq (.reg [rg 58 (.p true (.fad (.t 2) 17)), rg 59 (.p true (.ld (.t 58) 1 false)), rg 60 (.p true (.fad (.t 3) 17)), rg 61 (.p true (.ld (.t 60) 1 false)), rg 62 (.call true 56 [(.t 59), (.t 61)]), rg 63 (.p true (.not (.t 62)))]) (.cond (.t 63) (.seq (.reg [rg 4 (.p true (.mv (.c (.bool false))))]) .ret) .skip)) (.seq (.reg [rg 4 (.p true (.mv (.c (.bool true))))]) .ret)))))))))))))
theorem c12_is : compFn Try.prog 12 = some (c12, [(.tmp 4)]) := by kernel_rfl
theorem c12_ok : okFn Try.prog 12 = true := by kernel_rfl

noncomputable def F_laws_eqWork (v0 : TWork) (v1 : TWork) : Option (Bool) :=
 ((F_laws_eqRaga (v0.1, v0.2.1, v0.2.2.1, v0.2.2.2.1, v0.2.2.2.2.1, v0.2.2.2.2.2.1) (v1.1, v1.2.1, v1.2.2.1, v1.2.2.2.1, v1.2.2.2.2.1, v1.2.2.2.2.2.1)).bind fun v1000 => (bif (!v1000) then some false
 else (bif (decide (v0.2.2.2.2.2.2.1 ≠ v1.2.2.2.2.2.2.1)) then some false
 else (bif (decide (v0.2.2.2.2.2.2.2.1 ≠ v1.2.2.2.2.2.2.2.1)) then some false
 else ((F_laws_eqNoteS v0.2.2.2.2.2.2.2.2.1 v1.2.2.2.2.2.2.2.2.1).bind fun v1001 => (bif (!v1001) then some false
 else ((F_laws_eqTala (v0.2.2.2.2.2.2.2.2.2.1, v0.2.2.2.2.2.2.2.2.2.2.1, v0.2.2.2.2.2.2.2.2.2.2.2.1) (v1.2.2.2.2.2.2.2.2.2.1, v1.2.2.2.2.2.2.2.2.2.2.1, v1.2.2.2.2.2.2.2.2.2.2.2.1)).bind fun v1002 => (bif (!v1002) then some false
 else (bif (decide (v0.2.2.2.2.2.2.2.2.2.2.2.2.1 ≠ v1.2.2.2.2.2.2.2.2.2.2.2.2.1)) then some false
 else (bif (decide (v0.2.2.2.2.2.2.2.2.2.2.2.2.2.1 ≠ v1.2.2.2.2.2.2.2.2.2.2.2.2.2.1)) then some false
 else (bif (decide (v0.2.2.2.2.2.2.2.2.2.2.2.2.2.2.1 ≠ v1.2.2.2.2.2.2.2.2.2.2.2.2.2.2.1)) then some false
 else (bif (decide (v0.2.2.2.2.2.2.2.2.2.2.2.2.2.2.2.1 ≠ v1.2.2.2.2.2.2.2.2.2.2.2.2.2.2.2.1)) then some false
 else (bif (decide (v0.2.2.2.2.2.2.2.2.2.2.2.2.2.2.2.2.1 ≠ v1.2.2.2.2.2.2.2.2.2.2.2.2.2.2.2.2.1)) then some false
 else ((F_laws_eqTurnS v0.2.2.2.2.2.2.2.2.2.2.2.2.2.2.2.2.2 v1.2.2.2.2.2.2.2.2.2.2.2.2.2.2.2.2.2).bind fun v1003 => (bif (!v1003) then some false
 else some true)))))))))))))))
@[simp] def res_laws_eqWork (r : Bool) : RV := .one (.one (.val (.bool r)))
theorem con_laws_eqWork {v0 : TWork} {v1 : TWork} {r : Bool} (hF : F_laws_eqWork v0 v1 = some r) : Con Try.prog 12 [eWork v0, eWork v1] (res_laws_eqWork r) := by
 unfold F_laws_eqWork at hF
 refine con_of c12_is fun N => ?_
 refine ws 0 192 ?_
 refine qf (.ptr 0 0 0) [(0, .box [AS v0.1, AL 1 (v0.2.1.map vI), AL 1 (v0.2.2.1.map vI), AI v0.2.2.2.1, AI v0.2.2.2.2.1, AL 1 (v0.2.2.2.2.2.1.map (eL 1 vI)), AI v0.2.2.2.2.2.2.1, AI v0.2.2.2.2.2.2.2.1, AL 2 (v0.2.2.2.2.2.2.2.2.1.map eNote), AS v0.2.2.2.2.2.2.2.2.2.1, AL 1 (v0.2.2.2.2.2.2.2.2.2.2.1.map vI), AL 1 (v0.2.2.2.2.2.2.2.2.2.2.2.1.map vI), AI v0.2.2.2.2.2.2.2.2.2.2.2.2.1, AS v0.2.2.2.2.2.2.2.2.2.2.2.2.2.1, AI v0.2.2.2.2.2.2.2.2.2.2.2.2.2.2.1, AI v0.2.2.2.2.2.2.2.2.2.2.2.2.2.2.2.1, AI v0.2.2.2.2.2.2.2.2.2.2.2.2.2.2.2.2.1, AL 3 (v0.2.2.2.2.2.2.2.2.2.2.2.2.2.2.2.2.2.map eTurn)])] (by simp) ?_
 refine qf (.ptr 64 0 0) [(64, .box [AS v1.1, AL 1 (v1.2.1.map vI), AL 1 (v1.2.2.1.map vI), AI v1.2.2.2.1, AI v1.2.2.2.2.1, AL 1 (v1.2.2.2.2.2.1.map (eL 1 vI)), AI v1.2.2.2.2.2.2.1, AI v1.2.2.2.2.2.2.2.1, AL 2 (v1.2.2.2.2.2.2.2.2.1.map eNote), AS v1.2.2.2.2.2.2.2.2.2.1, AL 1 (v1.2.2.2.2.2.2.2.2.2.2.1.map vI), AL 1 (v1.2.2.2.2.2.2.2.2.2.2.2.1.map vI), AI v1.2.2.2.2.2.2.2.2.2.2.2.2.1, AS v1.2.2.2.2.2.2.2.2.2.2.2.2.2.1, AI v1.2.2.2.2.2.2.2.2.2.2.2.2.2.2.1, AI v1.2.2.2.2.2.2.2.2.2.2.2.2.2.2.2.1, AI v1.2.2.2.2.2.2.2.2.2.2.2.2.2.2.2.2.1, AL 3 (v1.2.2.2.2.2.2.2.2.2.2.2.2.2.2.2.2.2.map eTurn)]), (0, .box [AS v0.1, AL 1 (v0.2.1.map vI), AL 1 (v0.2.2.1.map vI), AI v0.2.2.2.1, AI v0.2.2.2.2.1, AL 1 (v0.2.2.2.2.2.1.map (eL 1 vI)), AI v0.2.2.2.2.2.2.1, AI v0.2.2.2.2.2.2.2.1, AL 2 (v0.2.2.2.2.2.2.2.2.1.map eNote), AS v0.2.2.2.2.2.2.2.2.2.1, AL 1 (v0.2.2.2.2.2.2.2.2.2.2.1.map vI), AL 1 (v0.2.2.2.2.2.2.2.2.2.2.2.1.map vI), AI v0.2.2.2.2.2.2.2.2.2.2.2.2.1, AS v0.2.2.2.2.2.2.2.2.2.2.2.2.2.1, AI v0.2.2.2.2.2.2.2.2.2.2.2.2.2.2.1, AI v0.2.2.2.2.2.2.2.2.2.2.2.2.2.2.2.1, AI v0.2.2.2.2.2.2.2.2.2.2.2.2.2.2.2.2.1, AL 3 (v0.2.2.2.2.2.2.2.2.2.2.2.2.2.2.2.2.2.map eTurn)])] (by simp) ?_
 refine qp (AB false) rfl ?_
 refine r_nil ?_
 refine w_seq ?_
 refine ws 192 576 ?_
 refine qp (.ptr 0 0 0) rfl (qp (.agg [AS v0.1, AL 1 (v0.2.1.map vI), AL 1 (v0.2.2.1.map vI), AI v0.2.2.2.1, AI v0.2.2.2.2.1, AL 1 (v0.2.2.2.2.2.1.map (eL 1 vI))]) rfl (qp (.ptr 64 0 0) rfl (qp (.agg [AS v1.1, AL 1 (v1.2.1.map vI), AL 1 (v1.2.2.1.map vI), AI v1.2.2.2.1, AI v1.2.2.2.2.1, AL 1 (v1.2.2.2.2.2.1.map (eL 1 vI))]) rfl ?_)))
 obtain ⟨v1000, e1000, hF⟩ := bind_get hF
 refine qc (AB v1000) [(64, .box [AS v1.1, AL 1 (v1.2.1.map vI), AL 1 (v1.2.2.1.map vI), AI v1.2.2.2.1, AI v1.2.2.2.2.1, AL 1 (v1.2.2.2.2.2.1.map (eL 1 vI)), AI v1.2.2.2.2.2.2.1, AI v1.2.2.2.2.2.2.2.1, AL 2 (v1.2.2.2.2.2.2.2.2.1.map eNote), AS v1.2.2.2.2.2.2.2.2.2.1, AL 1 (v1.2.2.2.2.2.2.2.2.2.2.1.map vI), AL 1 (v1.2.2.2.2.2.2.2.2.2.2.2.1.map vI), AI v1.2.2.2.2.2.2.2.2.2.2.2.2.1, AS v1.2.2.2.2.2.2.2.2.2.2.2.2.2.1, AI v1.2.2.2.2.2.2.2.2.2.2.2.2.2.2.1, AI v1.2.2.2.2.2.2.2.2.2.2.2.2.2.2.2.1, AI v1.2.2.2.2.2.2.2.2.2.2.2.2.2.2.2.2.1, AL 3 (v1.2.2.2.2.2.2.2.2.2.2.2.2.2.2.2.2.2.map eTurn)]), (0, .box [AS v0.1, AL 1 (v0.2.1.map vI), AL 1 (v0.2.2.1.map vI), AI v0.2.2.2.1, AI v0.2.2.2.2.1, AL 1 (v0.2.2.2.2.2.1.map (eL 1 vI)), AI v0.2.2.2.2.2.2.1, AI v0.2.2.2.2.2.2.2.1, AL 2 (v0.2.2.2.2.2.2.2.2.1.map eNote), AS v0.2.2.2.2.2.2.2.2.2.1, AL 1 (v0.2.2.2.2.2.2.2.2.2.2.1.map vI), AL 1 (v0.2.2.2.2.2.2.2.2.2.2.2.1.map vI), AI v0.2.2.2.2.2.2.2.2.2.2.2.2.1, AS v0.2.2.2.2.2.2.2.2.2.2.2.2.2.1, AI v0.2.2.2.2.2.2.2.2.2.2.2.2.2.2.1, AI v0.2.2.2.2.2.2.2.2.2.2.2.2.2.2.2.1, AI v0.2.2.2.2.2.2.2.2.2.2.2.2.2.2.2.2.1, AL 3 (v0.2.2.2.2.2.2.2.2.2.2.2.2.2.2.2.2.2.map eTurn)])] false (con_laws_eqRaga e1000) c53_ok (by first | rfl | simp) rfl ?_
 refine qp (AB (!v1000)) rfl ?_
 refine r_nil ?_
 refine cF hF (fun hF => ?_) fun hF => ?_
 ·
  refine ws 576 640 ?_
  refine qp (AB false) rfl ?_
  refine r_nil ?_
  refine w_ret ?_
  refine thenQ_r ?_
  cases hF
  exact eR
 ·
  refine w_skip ?_
  refine thenQ_n ?_
  refine w_seq ?_
  refine ws 576 896 ?_
  refine qp (.ptr 0 0 6) rfl (qp (AI v0.2.2.2.2.2.2.1) rfl (qp (.ptr 64 0 6) rfl (qp (AI v1.2.2.2.2.2.2.1) rfl (qp (AB (decide (v0.2.2.2.2.2.2.1 ≠ v1.2.2.2.2.2.2.1))) rfl ?_))))
  refine r_nil ?_
  refine cF hF (fun hF => ?_) fun hF => ?_
  ·
   refine ws 896 960 ?_
   refine qp (AB false) rfl ?_
   refine r_nil ?_
   refine w_ret ?_
   refine thenQ_r ?_
   cases hF
   exact eR
  ·
   refine w_skip ?_
   refine thenQ_n ?_
   refine w_seq ?_
   refine ws 896 1216 ?_
   refine qp (.ptr 0 0 7) rfl (qp (AI v0.2.2.2.2.2.2.2.1) rfl (qp (.ptr 64 0 7) rfl (qp (AI v1.2.2.2.2.2.2.2.1) rfl (qp (AB (decide (v0.2.2.2.2.2.2.2.1 ≠ v1.2.2.2.2.2.2.2.1))) rfl ?_))))
   refine r_nil ?_
   refine cF hF (fun hF => ?_) fun hF => ?_
   ·
    refine ws 1216 1280 ?_
    refine qp (AB false) rfl ?_
    refine r_nil ?_
    refine w_ret ?_
    refine thenQ_r ?_
    cases hF
    exact eR
   ·
    refine w_skip ?_
    refine thenQ_n ?_
    refine w_seq ?_
    refine ws 1216 1600 ?_
    refine qp (.ptr 0 0 8) rfl (qp (AL 2 (v0.2.2.2.2.2.2.2.2.1.map eNote)) rfl (qp (.ptr 64 0 8) rfl (qp (AL 2 (v1.2.2.2.2.2.2.2.2.1.map eNote)) rfl ?_)))
    obtain ⟨v1001, e1001, hF⟩ := bind_get hF
    refine qc (AB v1001) [(64, .box [AS v1.1, AL 1 (v1.2.1.map vI), AL 1 (v1.2.2.1.map vI), AI v1.2.2.2.1, AI v1.2.2.2.2.1, AL 1 (v1.2.2.2.2.2.1.map (eL 1 vI)), AI v1.2.2.2.2.2.2.1, AI v1.2.2.2.2.2.2.2.1, AL 2 (v1.2.2.2.2.2.2.2.2.1.map eNote), AS v1.2.2.2.2.2.2.2.2.2.1, AL 1 (v1.2.2.2.2.2.2.2.2.2.2.1.map vI), AL 1 (v1.2.2.2.2.2.2.2.2.2.2.2.1.map vI), AI v1.2.2.2.2.2.2.2.2.2.2.2.2.1, AS v1.2.2.2.2.2.2.2.2.2.2.2.2.2.1, AI v1.2.2.2.2.2.2.2.2.2.2.2.2.2.2.1, AI v1.2.2.2.2.2.2.2.2.2.2.2.2.2.2.2.1, AI v1.2.2.2.2.2.2.2.2.2.2.2.2.2.2.2.2.1, AL 3 (v1.2.2.2.2.2.2.2.2.2.2.2.2.2.2.2.2.2.map eTurn)]), (0, .box [AS v0.1, AL 1 (v0.2.1.map vI), AL 1 (v0.2.2.1.map vI), AI v0.2.2.2.1, AI v0.2.2.2.2.1, AL 1 (v0.2.2.2.2.2.1.map (eL 1 vI)), AI v0.2.2.2.2.2.2.1, AI v0.2.2.2.2.2.2.2.1, AL 2 (v0.2.2.2.2.2.2.2.2.1.map eNote), AS v0.2.2.2.2.2.2.2.2.2.1, AL 1 (v0.2.2.2.2.2.2.2.2.2.2.1.map vI), AL 1 (v0.2.2.2.2.2.2.2.2.2.2.2.1.map vI), AI v0.2.2.2.2.2.2.2.2.2.2.2.2.1, AS v0.2.2.2.2.2.2.2.2.2.2.2.2.2.1, AI v0.2.2.2.2.2.2.2.2.2.2.2.2.2.2.1, AI v0.2.2.2.2.2.2.2.2.2.2.2.2.2.2.2.1, AI v0.2.2.2.2.2.2.2.2.2.2.2.2.2.2.2.2.1, AL 3 (v0.2.2.2.2.2.2.2.2.2.2.2.2.2.2.2.2.2.map eTurn)])] false (con_laws_eqNoteS e1001) c54_ok (by first | rfl | simp) rfl ?_
    refine qp (AB (!v1001)) rfl ?_
    refine r_nil ?_
    refine cF hF (fun hF => ?_) fun hF => ?_
    ·
     refine ws 1600 1664 ?_
     refine qp (AB false) rfl ?_
     refine r_nil ?_
     refine w_ret ?_
     refine thenQ_r ?_
     cases hF
     exact eR
    ·
     refine w_skip ?_
     refine thenQ_n ?_
     refine w_seq ?_
     refine ws 1600 1984 ?_
     refine qp (.ptr 0 0 9) rfl (qp (.agg [AS v0.2.2.2.2.2.2.2.2.2.1, AL 1 (v0.2.2.2.2.2.2.2.2.2.2.1.map vI), AL 1 (v0.2.2.2.2.2.2.2.2.2.2.2.1.map vI)]) rfl (qp (.ptr 64 0 9) rfl (qp (.agg [AS v1.2.2.2.2.2.2.2.2.2.1, AL 1 (v1.2.2.2.2.2.2.2.2.2.2.1.map vI), AL 1 (v1.2.2.2.2.2.2.2.2.2.2.2.1.map vI)]) rfl ?_)))
     obtain ⟨v1002, e1002, hF⟩ := bind_get hF
     refine qc (AB v1002) [(64, .box [AS v1.1, AL 1 (v1.2.1.map vI), AL 1 (v1.2.2.1.map vI), AI v1.2.2.2.1, AI v1.2.2.2.2.1, AL 1 (v1.2.2.2.2.2.1.map (eL 1 vI)), AI v1.2.2.2.2.2.2.1, AI v1.2.2.2.2.2.2.2.1, AL 2 (v1.2.2.2.2.2.2.2.2.1.map eNote), AS v1.2.2.2.2.2.2.2.2.2.1, AL 1 (v1.2.2.2.2.2.2.2.2.2.2.1.map vI), AL 1 (v1.2.2.2.2.2.2.2.2.2.2.2.1.map vI), AI v1.2.2.2.2.2.2.2.2.2.2.2.2.1, AS v1.2.2.2.2.2.2.2.2.2.2.2.2.2.1, AI v1.2.2.2.2.2.2.2.2.2.2.2.2.2.2.1, AI v1.2.2.2.2.2.2.2.2.2.2.2.2.2.2.2.1, AI v1.2.2.2.2.2.2.2.2.2.2.2.2.2.2.2.2.1, AL 3 (v1.2.2.2.2.2.2.2.2.2.2.2.2.2.2.2.2.2.map eTurn)]), (0, .box [AS v0.1, AL 1 (v0.2.1.map vI), AL 1 (v0.2.2.1.map vI), AI v0.2.2.2.1, AI v0.2.2.2.2.1, AL 1 (v0.2.2.2.2.2.1.map (eL 1 vI)), AI v0.2.2.2.2.2.2.1, AI v0.2.2.2.2.2.2.2.1, AL 2 (v0.2.2.2.2.2.2.2.2.1.map eNote), AS v0.2.2.2.2.2.2.2.2.2.1, AL 1 (v0.2.2.2.2.2.2.2.2.2.2.1.map vI), AL 1 (v0.2.2.2.2.2.2.2.2.2.2.2.1.map vI), AI v0.2.2.2.2.2.2.2.2.2.2.2.2.1, AS v0.2.2.2.2.2.2.2.2.2.2.2.2.2.1, AI v0.2.2.2.2.2.2.2.2.2.2.2.2.2.2.1, AI v0.2.2.2.2.2.2.2.2.2.2.2.2.2.2.2.1, AI v0.2.2.2.2.2.2.2.2.2.2.2.2.2.2.2.2.1, AL 3 (v0.2.2.2.2.2.2.2.2.2.2.2.2.2.2.2.2.2.map eTurn)])] false (con_laws_eqTala e1002) c55_ok (by first | rfl | simp) rfl ?_
     refine qp (AB (!v1002)) rfl ?_
     refine r_nil ?_
     refine cF hF (fun hF => ?_) fun hF => ?_
     ·
      refine ws 1984 2048 ?_
      refine qp (AB false) rfl ?_
      refine r_nil ?_
      refine w_ret ?_
      refine thenQ_r ?_
      cases hF
      exact eR
     ·
      refine w_skip ?_
      refine thenQ_n ?_
      refine w_seq ?_
      refine ws 1984 2304 ?_
      refine qp (.ptr 0 0 12) rfl (qp (AI v0.2.2.2.2.2.2.2.2.2.2.2.2.1) rfl (qp (.ptr 64 0 12) rfl (qp (AI v1.2.2.2.2.2.2.2.2.2.2.2.2.1) rfl (qp (AB (decide (v0.2.2.2.2.2.2.2.2.2.2.2.2.1 ≠ v1.2.2.2.2.2.2.2.2.2.2.2.2.1))) rfl ?_))))
      refine r_nil ?_
      refine cF hF (fun hF => ?_) fun hF => ?_
      ·
       refine ws 2304 2368 ?_
       refine qp (AB false) rfl ?_
       refine r_nil ?_
       refine w_ret ?_
       refine thenQ_r ?_
       cases hF
       exact eR
      ·
       refine w_skip ?_
       refine thenQ_n ?_
       refine w_seq ?_
       refine ws 2304 2624 ?_
       refine qp (.ptr 0 0 13) rfl (qp (AS v0.2.2.2.2.2.2.2.2.2.2.2.2.2.1) rfl (qp (.ptr 64 0 13) rfl (qp (AS v1.2.2.2.2.2.2.2.2.2.2.2.2.2.1) rfl (qp (AB (decide (v0.2.2.2.2.2.2.2.2.2.2.2.2.2.1 ≠ v1.2.2.2.2.2.2.2.2.2.2.2.2.2.1))) rfl ?_))))
       refine r_nil ?_
       refine cF hF (fun hF => ?_) fun hF => ?_
       ·
        refine ws 2624 2688 ?_
        refine qp (AB false) rfl ?_
        refine r_nil ?_
        refine w_ret ?_
        refine thenQ_r ?_
        cases hF
        exact eR
       ·
        refine w_skip ?_
        refine thenQ_n ?_
        refine w_seq ?_
        refine ws 2624 2944 ?_
        refine qp (.ptr 0 0 14) rfl (qp (AI v0.2.2.2.2.2.2.2.2.2.2.2.2.2.2.1) rfl (qp (.ptr 64 0 14) rfl (qp (AI v1.2.2.2.2.2.2.2.2.2.2.2.2.2.2.1) rfl (qp (AB (decide (v0.2.2.2.2.2.2.2.2.2.2.2.2.2.2.1 ≠ v1.2.2.2.2.2.2.2.2.2.2.2.2.2.2.1))) rfl ?_))))
        refine r_nil ?_
        refine cF hF (fun hF => ?_) fun hF => ?_
        ·
         refine ws 2944 3008 ?_
         refine qp (AB false) rfl ?_
         refine r_nil ?_
         refine w_ret ?_
         refine thenQ_r ?_
         cases hF
         exact eR
        ·
         refine w_skip ?_
         refine thenQ_n ?_
         refine w_seq ?_
         refine ws 2944 3264 ?_
         refine qp (.ptr 0 0 15) rfl (qp (AI v0.2.2.2.2.2.2.2.2.2.2.2.2.2.2.2.1) rfl (qp (.ptr 64 0 15) rfl (qp (AI v1.2.2.2.2.2.2.2.2.2.2.2.2.2.2.2.1) rfl (qp (AB (decide (v0.2.2.2.2.2.2.2.2.2.2.2.2.2.2.2.1 ≠ v1.2.2.2.2.2.2.2.2.2.2.2.2.2.2.2.1))) rfl ?_))))
         refine r_nil ?_
         refine cF hF (fun hF => ?_) fun hF => ?_
         ·
          refine ws 3264 3328 ?_
          refine qp (AB false) rfl ?_
          refine r_nil ?_
          refine w_ret ?_
          refine thenQ_r ?_
          cases hF
          exact eR
         ·
          refine w_skip ?_
          refine thenQ_n ?_
          refine w_seq ?_
          refine ws 3264 3584 ?_
          refine qp (.ptr 0 0 16) rfl (qp (AI v0.2.2.2.2.2.2.2.2.2.2.2.2.2.2.2.2.1) rfl (qp (.ptr 64 0 16) rfl (qp (AI v1.2.2.2.2.2.2.2.2.2.2.2.2.2.2.2.2.1) rfl (qp (AB (decide (v0.2.2.2.2.2.2.2.2.2.2.2.2.2.2.2.2.1 ≠ v1.2.2.2.2.2.2.2.2.2.2.2.2.2.2.2.2.1))) rfl ?_))))
          refine r_nil ?_
          refine cF hF (fun hF => ?_) fun hF => ?_
          ·
           refine ws 3584 3648 ?_
           refine qp (AB false) rfl ?_
           refine r_nil ?_
           refine w_ret ?_
           refine thenQ_r ?_
           cases hF
           exact eR
          ·
           refine w_skip ?_
           refine thenQ_n ?_
           refine w_seq ?_
           refine ws 3584 3968 ?_
           refine qp (.ptr 0 0 17) rfl (qp (AL 3 (v0.2.2.2.2.2.2.2.2.2.2.2.2.2.2.2.2.2.map eTurn)) rfl (qp (.ptr 64 0 17) rfl (qp (AL 3 (v1.2.2.2.2.2.2.2.2.2.2.2.2.2.2.2.2.2.map eTurn)) rfl ?_)))
           obtain ⟨v1003, e1003, hF⟩ := bind_get hF
           refine qc (AB v1003) [(64, .box [AS v1.1, AL 1 (v1.2.1.map vI), AL 1 (v1.2.2.1.map vI), AI v1.2.2.2.1, AI v1.2.2.2.2.1, AL 1 (v1.2.2.2.2.2.1.map (eL 1 vI)), AI v1.2.2.2.2.2.2.1, AI v1.2.2.2.2.2.2.2.1, AL 2 (v1.2.2.2.2.2.2.2.2.1.map eNote), AS v1.2.2.2.2.2.2.2.2.2.1, AL 1 (v1.2.2.2.2.2.2.2.2.2.2.1.map vI), AL 1 (v1.2.2.2.2.2.2.2.2.2.2.2.1.map vI), AI v1.2.2.2.2.2.2.2.2.2.2.2.2.1, AS v1.2.2.2.2.2.2.2.2.2.2.2.2.2.1, AI v1.2.2.2.2.2.2.2.2.2.2.2.2.2.2.1, AI v1.2.2.2.2.2.2.2.2.2.2.2.2.2.2.2.1, AI v1.2.2.2.2.2.2.2.2.2.2.2.2.2.2.2.2.1, AL 3 (v1.2.2.2.2.2.2.2.2.2.2.2.2.2.2.2.2.2.map eTurn)]), (0, .box [AS v0.1, AL 1 (v0.2.1.map vI), AL 1 (v0.2.2.1.map vI), AI v0.2.2.2.1, AI v0.2.2.2.2.1, AL 1 (v0.2.2.2.2.2.1.map (eL 1 vI)), AI v0.2.2.2.2.2.2.1, AI v0.2.2.2.2.2.2.2.1, AL 2 (v0.2.2.2.2.2.2.2.2.1.map eNote), AS v0.2.2.2.2.2.2.2.2.2.1, AL 1 (v0.2.2.2.2.2.2.2.2.2.2.1.map vI), AL 1 (v0.2.2.2.2.2.2.2.2.2.2.2.1.map vI), AI v0.2.2.2.2.2.2.2.2.2.2.2.2.1, AS v0.2.2.2.2.2.2.2.2.2.2.2.2.2.1, AI v0.2.2.2.2.2.2.2.2.2.2.2.2.2.2.1, AI v0.2.2.2.2.2.2.2.2.2.2.2.2.2.2.2.1, AI v0.2.2.2.2.2.2.2.2.2.2.2.2.2.2.2.2.1, AL 3 (v0.2.2.2.2.2.2.2.2.2.2.2.2.2.2.2.2.2.map eTurn)])] false (con_laws_eqTurnS e1003) c56_ok (by first | rfl | simp) rfl ?_
           refine qp (AB (!v1003)) rfl ?_
           refine r_nil ?_
           refine cF hF (fun hF => ?_) fun hF => ?_
           ·
            refine ws 3968 4032 ?_
            refine qp (AB false) rfl ?_
            refine r_nil ?_
            refine w_ret ?_
            refine thenQ_r ?_
            cases hF
            exact eR
           ·
            refine w_skip ?_
            refine thenQ_n ?_
            refine ws 3968 4032 ?_
            refine qp (AB true) rfl ?_
            refine r_nil ?_
            refine w_ret ?_
            cases hF
            exact eR

def c3 : MC := (.seq (.reg [rg 1 (.f (.box (.t 0))), rg 2 (.p true (.mv (.c (.bool false))))]) (.seq (.reg [rg 3 (.p true (.mv (.c (.int .i64 1048576))))]) (.seq (.reg [rg 7 (.p true (.ld (.t 1) 18 true)), mvt 8 3, rg 9 (.call true 8 [(.t 7), (.t 8)]), mvt 3 9]) (.seq (.seq (.reg [mvt 10 3, rg 11 (.p true (.bin .lss (.t 10) (.c (.int .i64 0))))]) (.cond (.t 11) (.seq (.reg [rg 2 (.p true (.mv (.c (.bool true))))]) .ret) .skip)) (.seq (.reg [rg 12 (.p true (.ld (.t 1) 18 true)), rg 13 (.call true 10 [(.t 12)]), rg 14 (.call true 9 [(.t 13)]), mvt 4 14]) (.seq (.reg [rg 15 (.p true (.ld (.t 1) 18 true)), rg 16 (.call true 10 [(.t 15)]), rg 5 (.f (.alloc [((.str []), (0, false)), ((.sl 0 []), (1, false)), ((.sl 0 []), (1, false)), ((.int .i64 0), (0, false)), ((.int .i64 0), (0, false)), ((.sl 0 []), (1, false)), ((.int .i64 0), (0, false)), ((.int .i64 0), (0, false)), ((.sl 0 []), (2, false)), ((.str []), (0, false)), ((.sl 0 []), (1, false)), ((.sl 0 []), (1, false)), ((.int .i64 0), (0, false)), ((.str []), (0, false)), ((.int .i64 0), (0, false)), ((.int .i64 0), (0, false)), ((.int .i64 0), (0, false)), ((.sl 0 []), (3, false))])), ⟨none, none, (.f (.st (.t 5) (.t 16) 18))⟩]) (.seq (.reg [rg 17 (.p true (.ld (.t 5) 18 true)), rg 18 (.call true 11 [(.t 17)]), mvt 6 18]) (.seq (.seq (.reg [mvt 19 6, mvt 20 4, rg 21 (.p true (.bnb true (.t 19) (.t 20)))]) (.cond (.t 21) (.seq (.reg [rg 2 (.p true (.mv (.c (.bool false))))]) .ret) .skip)) (.seq (.seq (.reg [rg 22 (.p false (.ld (.t 5) 18 true)), rg 23 (.p false (.ld (.t 1) 18 true)), rg 24 (.call false 10 [(.t 23)]), rg 25 (.call false 12 [(.t 22), (.t 24)]), rg 26 (.p false (.not (.t 25)))]) (.cond (.t 26) (.seq (.reg [rg 2 (.p true (.mv (.c (.bool false))))]) .ret) .skip)) (.seq (.reg [rg 2 (.p true (.mv (.c (.bool true))))]) .ret))))))))))
theorem c3_is : compFn Try.prog 3 = some (c3, [(.tmp 2)]) := by kernel_rfl
theorem c3_ok : okFn Try.prog 3 = true := by kernel_rfl

noncomputable def F_laws_FnExactValidWork (v0 : TWork) : Option (Bool) :=
 ((F_laws_szWork v0 1048576).bind fun v1000 => (bif (decide (v1000 < (0 : Int))) then some true
 else ((F_laws_toWork v0).bind fun v1001 => ((F_spec_ValidWork v1001).bind fun v1002 => ((F_laws_toWork v0).bind fun v1003 => ((F_impl_ValidWork v1003).bind fun v1004 => (bif (v1004 != v1002) then some false
 else ((F_laws_toWork v0).bind fun v1005 => ((F_laws_eqWork v1003 v1005).bind fun v1006 => (bif (!v1006) then some false
 else some true))))))))))
@[simp] def res_laws_FnExactValidWork (r : Bool) : RV := .one (.one (.val (.bool r)))
theorem con_laws_FnExactValidWork {v0 : TWork} {r : Bool} (hF : F_laws_FnExactValidWork v0 = some r) : Con Try.prog 3 [eWork v0] (res_laws_FnExactValidWork r) := by
 unfold F_laws_FnExactValidWork at hF
 refine con_of c3_is fun N => ?_
 refine ws 0 128 ?_
 refine qf (.ptr 0 0 0) [(0, .box [AS v0.1, AL 1 (v0.2.1.map vI), AL 1 (v0.2.2.1.map vI), AI v0.2.2.2.1, AI v0.2.2.2.2.1, AL 1 (v0.2.2.2.2.2.1.map (eL 1 vI)), AI v0.2.2.2.2.2.2.1, AI v0.2.2.2.2.2.2.2.1, AL 2 (v0.2.2.2.2.2.2.2.2.1.map eNote), AS v0.2.2.2.2.2.2.2.2.2.1, AL 1 (v0.2.2.2.2.2.2.2.2.2.2.1.map vI), AL 1 (v0.2.2.2.2.2.2.2.2.2.2.2.1.map vI), AI v0.2.2.2.2.2.2.2.2.2.2.2.2.1, AS v0.2.2.2.2.2.2.2.2.2.2.2.2.2.1, AI v0.2.2.2.2.2.2.2.2.2.2.2.2.2.2.1, AI v0.2.2.2.2.2.2.2.2.2.2.2.2.2.2.2.1, AI v0.2.2.2.2.2.2.2.2.2.2.2.2.2.2.2.2.1, AL 3 (v0.2.2.2.2.2.2.2.2.2.2.2.2.2.2.2.2.2.map eTurn)])] (by simp) ?_
 refine qp (AB false) rfl ?_
 refine r_nil ?_
 refine ws 128 192 ?_
 refine qp (AI 1048576) rfl ?_
 refine r_nil ?_
 refine ws 192 448 ?_
 refine qp (.agg [AS v0.1, AL 1 (v0.2.1.map vI), AL 1 (v0.2.2.1.map vI), AI v0.2.2.2.1, AI v0.2.2.2.2.1, AL 1 (v0.2.2.2.2.2.1.map (eL 1 vI)), AI v0.2.2.2.2.2.2.1, AI v0.2.2.2.2.2.2.2.1, AL 2 (v0.2.2.2.2.2.2.2.2.1.map eNote), AS v0.2.2.2.2.2.2.2.2.2.1, AL 1 (v0.2.2.2.2.2.2.2.2.2.2.1.map vI), AL 1 (v0.2.2.2.2.2.2.2.2.2.2.2.1.map vI), AI v0.2.2.2.2.2.2.2.2.2.2.2.2.1, AS v0.2.2.2.2.2.2.2.2.2.2.2.2.2.1, AI v0.2.2.2.2.2.2.2.2.2.2.2.2.2.2.1, AI v0.2.2.2.2.2.2.2.2.2.2.2.2.2.2.2.1, AI v0.2.2.2.2.2.2.2.2.2.2.2.2.2.2.2.2.1, AL 3 (v0.2.2.2.2.2.2.2.2.2.2.2.2.2.2.2.2.2.map eTurn)]) rfl (qp (AI 1048576) rfl ?_)
 obtain ⟨v1000, e1000, hF⟩ := bind_get hF
 refine qc (AI v1000) [(0, .box [AS v0.1, AL 1 (v0.2.1.map vI), AL 1 (v0.2.2.1.map vI), AI v0.2.2.2.1, AI v0.2.2.2.2.1, AL 1 (v0.2.2.2.2.2.1.map (eL 1 vI)), AI v0.2.2.2.2.2.2.1, AI v0.2.2.2.2.2.2.2.1, AL 2 (v0.2.2.2.2.2.2.2.2.1.map eNote), AS v0.2.2.2.2.2.2.2.2.2.1, AL 1 (v0.2.2.2.2.2.2.2.2.2.2.1.map vI), AL 1 (v0.2.2.2.2.2.2.2.2.2.2.2.1.map vI), AI v0.2.2.2.2.2.2.2.2.2.2.2.2.1, AS v0.2.2.2.2.2.2.2.2.2.2.2.2.2.1, AI v0.2.2.2.2.2.2.2.2.2.2.2.2.2.2.1, AI v0.2.2.2.2.2.2.2.2.2.2.2.2.2.2.2.1, AI v0.2.2.2.2.2.2.2.2.2.2.2.2.2.2.2.2.1, AL 3 (v0.2.2.2.2.2.2.2.2.2.2.2.2.2.2.2.2.2.map eTurn)])] false (con_laws_szWork e1000) c8_ok (by first | rfl | simp) rfl ?_
 refine qp (AI v1000) rfl ?_
 refine r_nil ?_
 refine w_seq ?_
 refine ws 448 576 ?_
 refine qp (AI v1000) rfl (qp (AB (decide (v1000 < (0 : Int)))) rfl ?_)
 refine r_nil ?_
 refine cF hF (fun hF => ?_) fun hF => ?_
 ·
  refine ws 576 640 ?_
  refine qp (AB true) rfl ?_
  refine r_nil ?_
  refine w_ret ?_
  refine thenQ_r ?_
  cases hF
  exact eR
 ·
  refine w_skip ?_
  refine thenQ_n ?_
  refine ws 576 832 ?_
  refine qp (.agg [AS v0.1, AL 1 (v0.2.1.map vI), AL 1 (v0.2.2.1.map vI), AI v0.2.2.2.1, AI v0.2.2.2.2.1, AL 1 (v0.2.2.2.2.2.1.map (eL 1 vI)), AI v0.2.2.2.2.2.2.1, AI v0.2.2.2.2.2.2.2.1, AL 2 (v0.2.2.2.2.2.2.2.2.1.map eNote), AS v0.2.2.2.2.2.2.2.2.2.1, AL 1 (v0.2.2.2.2.2.2.2.2.2.2.1.map vI), AL 1 (v0.2.2.2.2.2.2.2.2.2.2.2.1.map vI), AI v0.2.2.2.2.2.2.2.2.2.2.2.2.1, AS v0.2.2.2.2.2.2.2.2.2.2.2.2.2.1, AI v0.2.2.2.2.2.2.2.2.2.2.2.2.2.2.1, AI v0.2.2.2.2.2.2.2.2.2.2.2.2.2.2.2.1, AI v0.2.2.2.2.2.2.2.2.2.2.2.2.2.2.2.2.1, AL 3 (v0.2.2.2.2.2.2.2.2.2.2.2.2.2.2.2.2.2.map eTurn)]) rfl ?_
  obtain ⟨v1001, e1001, hF⟩ := bind_get hF
  refine qc (.agg [AS v1001.1, .sl 641 0 v1001.2.1.length, .sl 642 0 v1001.2.2.1.length, AI v1001.2.2.2.1, AI v1001.2.2.2.2.1, .sl 645 0 v1001.2.2.2.2.2.1.length, AI v1001.2.2.2.2.2.2.1, AI v1001.2.2.2.2.2.2.2.1, .sl 648 0 v1001.2.2.2.2.2.2.2.2.1.length, AS v1001.2.2.2.2.2.2.2.2.2.1, .sl 650 0 v1001.2.2.2.2.2.2.2.2.2.2.1.length, .sl 651 0 v1001.2.2.2.2.2.2.2.2.2.2.2.1.length, AI v1001.2.2.2.2.2.2.2.2.2.2.2.2.1, AS v1001.2.2.2.2.2.2.2.2.2.2.2.2.2.1, AI v1001.2.2.2.2.2.2.2.2.2.2.2.2.2.2.1, AI v1001.2.2.2.2.2.2.2.2.2.2.2.2.2.2.2.1, AI v1001.2.2.2.2.2.2.2.2.2.2.2.2.2.2.2.2.1, .sl 657 0 v1001.2.2.2.2.2.2.2.2.2.2.2.2.2.2.2.2.2.length]) [(657, .row true 3 (v1001.2.2.2.2.2.2.2.2.2.2.2.2.2.2.2.2.2.map eTurn)), (651, .row true 1 (v1001.2.2.2.2.2.2.2.2.2.2.2.1.map vI)), (650, .row true 1 (v1001.2.2.2.2.2.2.2.2.2.2.1.map vI)), (648, .row true 2 (v1001.2.2.2.2.2.2.2.2.1.map eNote)), (645, .row true 1 (v1001.2.2.2.2.2.1.map (eL 1 vI))), (642, .row true 1 (v1001.2.2.1.map vI)), (641, .row true 1 (v1001.2.1.map vI)), (0, .box [AS v0.1, AL 1 (v0.2.1.map vI), AL 1 (v0.2.2.1.map vI), AI v0.2.2.2.1, AI v0.2.2.2.2.1, AL 1 (v0.2.2.2.2.2.1.map (eL 1 vI)), AI v0.2.2.2.2.2.2.1, AI v0.2.2.2.2.2.2.2.1, AL 2 (v0.2.2.2.2.2.2.2.2.1.map eNote), AS v0.2.2.2.2.2.2.2.2.2.1, AL 1 (v0.2.2.2.2.2.2.2.2.2.2.1.map vI), AL 1 (v0.2.2.2.2.2.2.2.2.2.2.2.1.map vI), AI v0.2.2.2.2.2.2.2.2.2.2.2.2.1, AS v0.2.2.2.2.2.2.2.2.2.2.2.2.2.1, AI v0.2.2.2.2.2.2.2.2.2.2.2.2.2.2.1, AI v0.2.2.2.2.2.2.2.2.2.2.2.2.2.2.2.1, AI v0.2.2.2.2.2.2.2.2.2.2.2.2.2.2.2.2.1, AL 3 (v0.2.2.2.2.2.2.2.2.2.2.2.2.2.2.2.2.2.map eTurn)])] false (con_laws_toWork e1001) c10_ok (by first | rfl | simp) (by simp [res_laws_toWork]) ?_
  obtain ⟨v1002, e1002, hF⟩ := bind_get hF
  refine qc (AB v1002) [(657, .row true 3 (v1001.2.2.2.2.2.2.2.2.2.2.2.2.2.2.2.2.2.map eTurn)), (651, .row true 1 (v1001.2.2.2.2.2.2.2.2.2.2.2.1.map vI)), (650, .row true 1 (v1001.2.2.2.2.2.2.2.2.2.2.1.map vI)), (648, .row true 2 (v1001.2.2.2.2.2.2.2.2.1.map eNote)), (645, .row true 1 (v1001.2.2.2.2.2.1.map (eL 1 vI))), (642, .row true 1 (v1001.2.2.1.map vI)), (641, .row true 1 (v1001.2.1.map vI)), (0, .box [AS v0.1, AL 1 (v0.2.1.map vI), AL 1 (v0.2.2.1.map vI), AI v0.2.2.2.1, AI v0.2.2.2.2.1, AL 1 (v0.2.2.2.2.2.1.map (eL 1 vI)), AI v0.2.2.2.2.2.2.1, AI v0.2.2.2.2.2.2.2.1, AL 2 (v0.2.2.2.2.2.2.2.2.1.map eNote), AS v0.2.2.2.2.2.2.2.2.2.1, AL 1 (v0.2.2.2.2.2.2.2.2.2.2.1.map vI), AL 1 (v0.2.2.2.2.2.2.2.2.2.2.2.1.map vI), AI v0.2.2.2.2.2.2.2.2.2.2.2.2.1, AS v0.2.2.2.2.2.2.2.2.2.2.2.2.2.1, AI v0.2.2.2.2.2.2.2.2.2.2.2.2.2.2.1, AI v0.2.2.2.2.2.2.2.2.2.2.2.2.2.2.2.1, AI v0.2.2.2.2.2.2.2.2.2.2.2.2.2.2.2.2.1, AL 3 (v0.2.2.2.2.2.2.2.2.2.2.2.2.2.2.2.2.2.map eTurn)])] true (con_spec_ValidWork e1002) c9_ok (by simp [List.take_of_length_le]) rfl ?_
  refine qp (AB v1002) rfl ?_
  refine r_nil ?_
  refine ws 832 1088 ?_
  refine qp (.agg [AS v0.1, AL 1 (v0.2.1.map vI), AL 1 (v0.2.2.1.map vI), AI v0.2.2.2.1, AI v0.2.2.2.2.1, AL 1 (v0.2.2.2.2.2.1.map (eL 1 vI)), AI v0.2.2.2.2.2.2.1, AI v0.2.2.2.2.2.2.2.1, AL 2 (v0.2.2.2.2.2.2.2.2.1.map eNote), AS v0.2.2.2.2.2.2.2.2.2.1, AL 1 (v0.2.2.2.2.2.2.2.2.2.2.1.map vI), AL 1 (v0.2.2.2.2.2.2.2.2.2.2.2.1.map vI), AI v0.2.2.2.2.2.2.2.2.2.2.2.2.1, AS v0.2.2.2.2.2.2.2.2.2.2.2.2.2.1, AI v0.2.2.2.2.2.2.2.2.2.2.2.2.2.2.1, AI v0.2.2.2.2.2.2.2.2.2.2.2.2.2.2.2.1, AI v0.2.2.2.2.2.2.2.2.2.2.2.2.2.2.2.2.1, AL 3 (v0.2.2.2.2.2.2.2.2.2.2.2.2.2.2.2.2.2.map eTurn)]) rfl ?_
  obtain ⟨v1003, e1003, hF⟩ := bind_get hF
  refine qc (.agg [AS v1003.1, .sl 897 0 v1003.2.1.length, .sl 898 0 v1003.2.2.1.length, AI v1003.2.2.2.1, AI v1003.2.2.2.2.1, .sl 901 0 v1003.2.2.2.2.2.1.length, AI v1003.2.2.2.2.2.2.1, AI v1003.2.2.2.2.2.2.2.1, .sl 904 0 v1003.2.2.2.2.2.2.2.2.1.length, AS v1003.2.2.2.2.2.2.2.2.2.1, .sl 906 0 v1003.2.2.2.2.2.2.2.2.2.2.1.length, .sl 907 0 v1003.2.2.2.2.2.2.2.2.2.2.2.1.length, AI v1003.2.2.2.2.2.2.2.2.2.2.2.2.1, AS v1003.2.2.2.2.2.2.2.2.2.2.2.2.2.1, AI v1003.2.2.2.2.2.2.2.2.2.2.2.2.2.2.1, AI v1003.2.2.2.2.2.2.2.2.2.2.2.2.2.2.2.1, AI v1003.2.2.2.2.2.2.2.2.2.2.2.2.2.2.2.2.1, .sl 913 0 v1003.2.2.2.2.2.2.2.2.2.2.2.2.2.2.2.2.2.length]) [(913, .row true 3 (v1003.2.2.2.2.2.2.2.2.2.2.2.2.2.2.2.2.2.map eTurn)), (907, .row true 1 (v1003.2.2.2.2.2.2.2.2.2.2.2.1.map vI)), (906, .row true 1 (v1003.2.2.2.2.2.2.2.2.2.2.1.map vI)), (904, .row true 2 (v1003.2.2.2.2.2.2.2.2.1.map eNote)), (901, .row true 1 (v1003.2.2.2.2.2.1.map (eL 1 vI))), (898, .row true 1 (v1003.2.2.1.map vI)), (897, .row true 1 (v1003.2.1.map vI)), (657, .row true 3 (v1001.2.2.2.2.2.2.2.2.2.2.2.2.2.2.2.2.2.map eTurn)), (651, .row true 1 (v1001.2.2.2.2.2.2.2.2.2.2.2.1.map vI)), (650, .row true 1 (v1001.2.2.2.2.2.2.2.2.2.2.1.map vI)), (648, .row true 2 (v1001.2.2.2.2.2.2.2.2.1.map eNote)), (645, .row true 1 (v1001.2.2.2.2.2.1.map (eL 1 vI))), (642, .row true 1 (v1001.2.2.1.map vI)), (641, .row true 1 (v1001.2.1.map vI)), (0, .box [AS v0.1, AL 1 (v0.2.1.map vI), AL 1 (v0.2.2.1.map vI), AI v0.2.2.2.1, AI v0.2.2.2.2.1, AL 1 (v0.2.2.2.2.2.1.map (eL 1 vI)), AI v0.2.2.2.2.2.2.1, AI v0.2.2.2.2.2.2.2.1, AL 2 (v0.2.2.2.2.2.2.2.2.1.map eNote), AS v0.2.2.2.2.2.2.2.2.2.1, AL 1 (v0.2.2.2.2.2.2.2.2.2.2.1.map vI), AL 1 (v0.2.2.2.2.2.2.2.2.2.2.2.1.map vI), AI v0.2.2.2.2.2.2.2.2.2.2.2.2.1, AS v0.2.2.2.2.2.2.2.2.2.2.2.2.2.1, AI v0.2.2.2.2.2.2.2.2.2.2.2.2.2.2.1, AI v0.2.2.2.2.2.2.2.2.2.2.2.2.2.2.2.1, AI v0.2.2.2.2.2.2.2.2.2.2.2.2.2.2.2.2.1, AL 3 (v0.2.2.2.2.2.2.2.2.2.2.2.2.2.2.2.2.2.map eTurn)])] false (con_laws_toWork e1003) c10_ok (by first | rfl | simp) (by simp [res_laws_toWork]) ?_
  refine qf (.ptr 960 0 0) [(960, .box [AS [], .sl 961 0 0, .sl 962 0 0, AI 0, AI 0, .sl 963 0 0, AI 0, AI 0, .sl 964 0 0, AS [], .sl 965 0 0, .sl 966 0 0, AI 0, AS [], AI 0, AI 0, AI 0, .sl 967 0 0]), (967, .row true 3 (([] : List Int).map vI)), (966, .row true 1 (([] : List Int).map vI)), (965, .row true 1 (([] : List Int).map vI)), (964, .row true 2 (([] : List Int).map vI)), (963, .row true 1 (([] : List Int).map vI)), (962, .row true 1 (([] : List Int).map vI)), (961, .row true 1 (([] : List Int).map vI)), (913, .row true 3 (v1003.2.2.2.2.2.2.2.2.2.2.2.2.2.2.2.2.2.map eTurn)), (907, .row true 1 (v1003.2.2.2.2.2.2.2.2.2.2.2.1.map vI)), (906, .row true 1 (v1003.2.2.2.2.2.2.2.2.2.2.1.map vI)), (904, .row true 2 (v1003.2.2.2.2.2.2.2.2.1.map eNote)), (901, .row true 1 (v1003.2.2.2.2.2.1.map (eL 1 vI))), (898, .row true 1 (v1003.2.2.1.map vI)), (897, .row true 1 (v1003.2.1.map vI)), (657, .row true 3 (v1001.2.2.2.2.2.2.2.2.2.2.2.2.2.2.2.2.2.map eTurn)), (651, .row true 1 (v1001.2.2.2.2.2.2.2.2.2.2.2.1.map vI)), (650, .row true 1 (v1001.2.2.2.2.2.2.2.2.2.2.1.map vI)), (648, .row true 2 (v1001.2.2.2.2.2.2.2.2.1.map eNote)), (645, .row true 1 (v1001.2.2.2.2.2.1.map (eL 1 vI))), (642, .row true 1 (v1001.2.2.1.map vI)), (641, .row true 1 (v1001.2.1.map vI)), (0, .box [AS v0.1, AL 1 (v0.2.1.map vI), AL 1 (v0.2.2.1.map vI), AI v0.2.2.2.1, AI v0.2.2.2.2.1, AL 1 (v0.2.2.2.2.2.1.map (eL 1 vI)), AI v0.2.2.2.2.2.2.1, AI v0.2.2.2.2.2.2.2.1, AL 2 (v0.2.2.2.2.2.2.2.2.1.map eNote), AS v0.2.2.2.2.2.2.2.2.2.1, AL 1 (v0.2.2.2.2.2.2.2.2.2.2.1.map vI), AL 1 (v0.2.2.2.2.2.2.2.2.2.2.2.1.map vI), AI v0.2.2.2.2.2.2.2.2.2.2.2.2.1, AS v0.2.2.2.2.2.2.2.2.2.2.2.2.2.1, AI v0.2.2.2.2.2.2.2.2.2.2.2.2.2.2.1, AI v0.2.2.2.2.2.2.2.2.2.2.2.2.2.2.2.1, AI v0.2.2.2.2.2.2.2.2.2.2.2.2.2.2.2.2.1, AL 3 (v0.2.2.2.2.2.2.2.2.2.2.2.2.2.2.2.2.2.map eTurn)])] (by simp) ?_
  refine qf0 (.undef) [(960, .box [AS v1003.1, .sl 897 0 v1003.2.1.length, .sl 898 0 v1003.2.2.1.length, AI v1003.2.2.2.1, AI v1003.2.2.2.2.1, .sl 901 0 v1003.2.2.2.2.2.1.length, AI v1003.2.2.2.2.2.2.1, AI v1003.2.2.2.2.2.2.2.1, .sl 904 0 v1003.2.2.2.2.2.2.2.2.1.length, AS v1003.2.2.2.2.2.2.2.2.2.1, .sl 906 0 v1003.2.2.2.2.2.2.2.2.2.2.1.length, .sl 907 0 v1003.2.2.2.2.2.2.2.2.2.2.2.1.length, AI v1003.2.2.2.2.2.2.2.2.2.2.2.2.1, AS v1003.2.2.2.2.2.2.2.2.2.2.2.2.2.1, AI v1003.2.2.2.2.2.2.2.2.2.2.2.2.2.2.1, AI v1003.2.2.2.2.2.2.2.2.2.2.2.2.2.2.2.1, AI v1003.2.2.2.2.2.2.2.2.2.2.2.2.2.2.2.2.1, .sl 913 0 v1003.2.2.2.2.2.2.2.2.2.2.2.2.2.2.2.2.2.length]), (960, .box [AS [], .sl 961 0 0, .sl 962 0 0, AI 0, AI 0, .sl 963 0 0, AI 0, AI 0, .sl 964 0 0, AS [], .sl 965 0 0, .sl 966 0 0, AI 0, AS [], AI 0, AI 0, AI 0, .sl 967 0 0]), (967, .row true 3 (([] : List Int).map vI)), (966, .row true 1 (([] : List Int).map vI)), (965, .row true 1 (([] : List Int).map vI)), (964, .row true 2 (([] : List Int).map vI)), (963, .row true 1 (([] : List Int).map vI)), (962, .row true 1 (([] : List Int).map vI)), (961, .row true 1 (([] : List Int).map vI)), (913, .row true 3 (v1003.2.2.2.2.2.2.2.2.2.2.2.2.2.2.2.2.2.map eTurn)), (907, .row true 1 (v1003.2.2.2.2.2.2.2.2.2.2.2.1.map vI)), (906, .row true 1 (v1003.2.2.2.2.2.2.2.2.2.2.1.map vI)), (904, .row true 2 (v1003.2.2.2.2.2.2.2.2.1.map eNote)), (901, .row true 1 (v1003.2.2.2.2.2.1.map (eL 1 vI))), (898, .row true 1 (v1003.2.2.1.map vI)), (897, .row true 1 (v1003.2.1.map vI)), (657, .row true 3 (v1001.2.2.2.2.2.2.2.2.2.2.2.2.2.2.2.2.2.map eTurn)), (651, .row true 1 (v1001.2.2.2.2.2.2.2.2.2.2.2.1.map vI)), (650, .row true 1 (v1001.2.2.2.2.2.2.2.2.2.2.1.map vI)), (648, .row true 2 (v1001.2.2.2.2.2.2.2.2.1.map eNote)), (645, .row true 1 (v1001.2.2.2.2.2.1.map (eL 1 vI))), (642, .row true 1 (v1001.2.2.1.map vI)), (641, .row true 1 (v1001.2.1.map vI)), (0, .box [AS v0.1, AL 1 (v0.2.1.map vI), AL 1 (v0.2.2.1.map vI), AI v0.2.2.2.1, AI v0.2.2.2.2.1, AL 1 (v0.2.2.2.2.2.1.map (eL 1 vI)), AI v0.2.2.2.2.2.2.1, AI v0.2.2.2.2.2.2.2.1, AL 2 (v0.2.2.2.2.2.2.2.2.1.map eNote), AS v0.2.2.2.2.2.2.2.2.2.1, AL 1 (v0.2.2.2.2.2.2.2.2.2.2.1.map vI), AL 1 (v0.2.2.2.2.2.2.2.2.2.2.2.1.map vI), AI v0.2.2.2.2.2.2.2.2.2.2.2.2.1, AS v0.2.2.2.2.2.2.2.2.2.2.2.2.2.1, AI v0.2.2.2.2.2.2.2.2.2.2.2.2.2.2.1, AI v0.2.2.2.2.2.2.2.2.2.2.2.2.2.2.2.1, AI v0.2.2.2.2.2.2.2.2.2.2.2.2.2.2.2.2.1, AL 3 (v0.2.2.2.2.2.2.2.2.2.2.2.2.2.2.2.2.2.map eTurn)])] (by simp) ?_
  refine r_nil ?_
  refine ws 1088 1280 ?_
  refine qp (.agg [AS v1003.1, .sl 897 0 v1003.2.1.length, .sl 898 0 v1003.2.2.1.length, AI v1003.2.2.2.1, AI v1003.2.2.2.2.1, .sl 901 0 v1003.2.2.2.2.2.1.length, AI v1003.2.2.2.2.2.2.1, AI v1003.2.2.2.2.2.2.2.1, .sl 904 0 v1003.2.2.2.2.2.2.2.2.1.length, AS v1003.2.2.2.2.2.2.2.2.2.1, .sl 906 0 v1003.2.2.2.2.2.2.2.2.2.2.1.length, .sl 907 0 v1003.2.2.2.2.2.2.2.2.2.2.2.1.length, AI v1003.2.2.2.2.2.2.2.2.2.2.2.2.1, AS v1003.2.2.2.2.2.2.2.2.2.2.2.2.2.1, AI v1003.2.2.2.2.2.2.2.2.2.2.2.2.2.2.1, AI v1003.2.2.2.2.2.2.2.2.2.2.2.2.2.2.2.1, AI v1003.2.2.2.2.2.2.2.2.2.2.2.2.2.2.2.2.1, .sl 913 0 v1003.2.2.2.2.2.2.2.2.2.2.2.2.2.2.2.2.2.length]) rfl ?_
  obtain ⟨v1004, e1004, hF⟩ := bind_get hF
  refine qc (AB v1004) [(960, .box [AS v1003.1, .sl 897 0 v1003.2.1.length, .sl 898 0 v1003.2.2.1.length, AI v1003.2.2.2.1, AI v1003.2.2.2.2.1, .sl 901 0 v1003.2.2.2.2.2.1.length, AI v1003.2.2.2.2.2.2.1, AI v1003.2.2.2.2.2.2.2.1, .sl 904 0 v1003.2.2.2.2.2.2.2.2.1.length, AS v1003.2.2.2.2.2.2.2.2.2.1, .sl 906 0 v1003.2.2.2.2.2.2.2.2.2.2.1.length, .sl 907 0 v1003.2.2.2.2.2.2.2.2.2.2.2.1.length, AI v1003.2.2.2.2.2.2.2.2.2.2.2.2.1, AS v1003.2.2.2.2.2.2.2.2.2.2.2.2.2.1, AI v1003.2.2.2.2.2.2.2.2.2.2.2.2.2.2.1, AI v1003.2.2.2.2.2.2.2.2.2.2.2.2.2.2.2.1, AI v1003.2.2.2.2.2.2.2.2.2.2.2.2.2.2.2.2.1, .sl 913 0 v1003.2.2.2.2.2.2.2.2.2.2.2.2.2.2.2.2.2.length]), (960, .box [AS [], .sl 961 0 0, .sl 962 0 0, AI 0, AI 0, .sl 963 0 0, AI 0, AI 0, .sl 964 0 0, AS [], .sl 965 0 0, .sl 966 0 0, AI 0, AS [], AI 0, AI 0, AI 0, .sl 967 0 0]), (967, .row true 3 (([] : List Int).map vI)), (966, .row true 1 (([] : List Int).map vI)), (965, .row true 1 (([] : List Int).map vI)), (964, .row true 2 (([] : List Int).map vI)), (963, .row true 1 (([] : List Int).map vI)), (962, .row true 1 (([] : List Int).map vI)), (961, .row true 1 (([] : List Int).map vI)), (913, .row true 3 (v1003.2.2.2.2.2.2.2.2.2.2.2.2.2.2.2.2.2.map eTurn)), (907, .row true 1 (v1003.2.2.2.2.2.2.2.2.2.2.2.1.map vI)), (906, .row true 1 (v1003.2.2.2.2.2.2.2.2.2.2.1.map vI)), (904, .row true 2 (v1003.2.2.2.2.2.2.2.2.1.map eNote)), (901, .row true 1 (v1003.2.2.2.2.2.1.map (eL 1 vI))), (898, .row true 1 (v1003.2.2.1.map vI)), (897, .row true 1 (v1003.2.1.map vI)), (657, .row true 3 (v1001.2.2.2.2.2.2.2.2.2.2.2.2.2.2.2.2.2.map eTurn)), (651, .row true 1 (v1001.2.2.2.2.2.2.2.2.2.2.2.1.map vI)), (650, .row true 1 (v1001.2.2.2.2.2.2.2.2.2.2.1.map vI)), (648, .row true 2 (v1001.2.2.2.2.2.2.2.2.1.map eNote)), (645, .row true 1 (v1001.2.2.2.2.2.1.map (eL 1 vI))), (642, .row true 1 (v1001.2.2.1.map vI)), (641, .row true 1 (v1001.2.1.map vI)), (0, .box [AS v0.1, AL 1 (v0.2.1.map vI), AL 1 (v0.2.2.1.map vI), AI v0.2.2.2.1, AI v0.2.2.2.2.1, AL 1 (v0.2.2.2.2.2.1.map (eL 1 vI)), AI v0.2.2.2.2.2.2.1, AI v0.2.2.2.2.2.2.2.1, AL 2 (v0.2.2.2.2.2.2.2.2.1.map eNote), AS v0.2.2.2.2.2.2.2.2.2.1, AL 1 (v0.2.2.2.2.2.2.2.2.2.2.1.map vI), AL 1 (v0.2.2.2.2.2.2.2.2.2.2.2.1.map vI), AI v0.2.2.2.2.2.2.2.2.2.2.2.2.1, AS v0.2.2.2.2.2.2.2.2.2.2.2.2.2.1, AI v0.2.2.2.2.2.2.2.2.2.2.2.2.2.2.1, AI v0.2.2.2.2.2.2.2.2.2.2.2.2.2.2.2.1, AI v0.2.2.2.2.2.2.2.2.2.2.2.2.2.2.2.2.1, AL 3 (v0.2.2.2.2.2.2.2.2.2.2.2.2.2.2.2.2.2.map eTurn)])] true (con_impl_ValidWork e1004) c11_ok (by simp [List.take_of_length_le]) rfl ?_
  refine qp (AB v1004) rfl ?_
  refine r_nil ?_
  refine w_seq ?_
  refine ws 1280 1472 ?_
  refine qp (AB v1004) rfl (qp (AB v1002) rfl (qp (AB (v1004 != v1002)) rfl ?_))
  refine r_nil ?_
  refine cF hF (fun hF => ?_) fun hF => ?_
  ·
   refine ws 1472 1536 ?_
   refine qp (AB false) rfl ?_
   refine r_nil ?_
   refine w_ret ?_
   refine thenQ_r ?_
   cases hF
   exact eR
  ·
   refine w_skip ?_
   refine thenQ_n ?_
   refine w_seq ?_
   refine ws 1472 1792 ?_
   refine qp (.agg [AS v1003.1, .sl 897 0 v1003.2.1.length, .sl 898 0 v1003.2.2.1.length, AI v1003.2.2.2.1, AI v1003.2.2.2.2.1, .sl 901 0 v1003.2.2.2.2.2.1.length, AI v1003.2.2.2.2.2.2.1, AI v1003.2.2.2.2.2.2.2.1, .sl 904 0 v1003.2.2.2.2.2.2.2.2.1.length, AS v1003.2.2.2.2.2.2.2.2.2.1, .sl 906 0 v1003.2.2.2.2.2.2.2.2.2.2.1.length, .sl 907 0 v1003.2.2.2.2.2.2.2.2.2.2.2.1.length, AI v1003.2.2.2.2.2.2.2.2.2.2.2.2.1, AS v1003.2.2.2.2.2.2.2.2.2.2.2.2.2.1, AI v1003.2.2.2.2.2.2.2.2.2.2.2.2.2.2.1, AI v1003.2.2.2.2.2.2.2.2.2.2.2.2.2.2.2.1, AI v1003.2.2.2.2.2.2.2.2.2.2.2.2.2.2.2.2.1, .sl 913 0 v1003.2.2.2.2.2.2.2.2.2.2.2.2.2.2.2.2.2.length]) rfl (qp (.agg [AS v0.1, AL 1 (v0.2.1.map vI), AL 1 (v0.2.2.1.map vI), AI v0.2.2.2.1, AI v0.2.2.2.2.1, AL 1 (v0.2.2.2.2.2.1.map (eL 1 vI)), AI v0.2.2.2.2.2.2.1, AI v0.2.2.2.2.2.2.2.1, AL 2 (v0.2.2.2.2.2.2.2.2.1.map eNote), AS v0.2.2.2.2.2.2.2.2.2.1, AL 1 (v0.2.2.2.2.2.2.2.2.2.2.1.map vI), AL 1 (v0.2.2.2.2.2.2.2.2.2.2.2.1.map vI), AI v0.2.2.2.2.2.2.2.2.2.2.2.2.1, AS v0.2.2.2.2.2.2.2.2.2.2.2.2.2.1, AI v0.2.2.2.2.2.2.2.2.2.2.2.2.2.2.1, AI v0.2.2.2.2.2.2.2.2.2.2.2.2.2.2.2.1, AI v0.2.2.2.2.2.2.2.2.2.2.2.2.2.2.2.2.1, AL 3 (v0.2.2.2.2.2.2.2.2.2.2.2.2.2.2.2.2.2.map eTurn)]) rfl ?_)
   obtain ⟨v1005, e1005, hF⟩ := bind_get hF
   refine qc (.agg [AS v1005.1, .sl 1601 0 v1005.2.1.length, .sl 1602 0 v1005.2.2.1.length, AI v1005.2.2.2.1, AI v1005.2.2.2.2.1, .sl 1605 0 v1005.2.2.2.2.2.1.length, AI v1005.2.2.2.2.2.2.1, AI v1005.2.2.2.2.2.2.2.1, .sl 1608 0 v1005.2.2.2.2.2.2.2.2.1.length, AS v1005.2.2.2.2.2.2.2.2.2.1, .sl 1610 0 v1005.2.2.2.2.2.2.2.2.2.2.1.length, .sl 1611 0 v1005.2.2.2.2.2.2.2.2.2.2.2.1.length, AI v1005.2.2.2.2.2.2.2.2.2.2.2.2.1, AS v1005.2.2.2.2.2.2.2.2.2.2.2.2.2.1, AI v1005.2.2.2.2.2.2.2.2.2.2.2.2.2.2.1, AI v1005.2.2.2.2.2.2.2.2.2.2.2.2.2.2.2.1, AI v1005.2.2.2.2.2.2.2.2.2.2.2.2.2.2.2.2.1, .sl 1617 0 v1005.2.2.2.2.2.2.2.2.2.2.2.2.2.2.2.2.2.length]) [(1617, .row true 3 (v1005.2.2.2.2.2.2.2.2.2.2.2.2.2.2.2.2.2.map eTurn)), (1611, .row true 1 (v1005.2.2.2.2.2.2.2.2.2.2.2.1.map vI)), (1610, .row true 1 (v1005.2.2.2.2.2.2.2.2.2.2.1.map vI)), (1608, .row true 2 (v1005.2.2.2.2.2.2.2.2.1.map eNote)), (1605, .row true 1 (v1005.2.2.2.2.2.1.map (eL 1 vI))), (1602, .row true 1 (v1005.2.2.1.map vI)), (1601, .row true 1 (v1005.2.1.map vI)), (960, .box [AS v1003.1, .sl 897 0 v1003.2.1.length, .sl 898 0 v1003.2.2.1.length, AI v1003.2.2.2.1, AI v1003.2.2.2.2.1, .sl 901 0 v1003.2.2.2.2.2.1.length, AI v1003.2.2.2.2.2.2.1, AI v1003.2.2.2.2.2.2.2.1, .sl 904 0 v1003.2.2.2.2.2.2.2.2.1.length, AS v1003.2.2.2.2.2.2.2.2.2.1, .sl 906 0 v1003.2.2.2.2.2.2.2.2.2.2.1.length, .sl 907 0 v1003.2.2.2.2.2.2.2.2.2.2.2.1.length, AI v1003.2.2.2.2.2.2.2.2.2.2.2.2.1, AS v1003.2.2.2.2.2.2.2.2.2.2.2.2.2.1, AI v1003.2.2.2.2.2.2.2.2.2.2.2.2.2.2.1, AI v1003.2.2.2.2.2.2.2.2.2.2.2.2.2.2.2.1, AI v1003.2.2.2.2.2.2.2.2.2.2.2.2.2.2.2.2.1, .sl 913 0 v1003.2.2.2.2.2.2.2.2.2.2.2.2.2.2.2.2.2.length]), (960, .box [AS [], .sl 961 0 0, .sl 962 0 0, AI 0, AI 0, .sl 963 0 0, AI 0, AI 0, .sl 964 0 0, AS [], .sl 965 0 0, .sl 966 0 0, AI 0, AS [], AI 0, AI 0, AI 0, .sl 967 0 0]), (967, .row true 3 (([] : List Int).map vI)), (966, .row true 1 (([] : List Int).map vI)), (965, .row true 1 (([] : List Int).map vI)), (964, .row true 2 (([] : List Int).map vI)), (963, .row true 1 (([] : List Int).map vI)), (962, .row true 1 (([] : List Int).map vI)), (961, .row true 1 (([] : List Int).map vI)), (913, .row true 3 (v1003.2.2.2.2.2.2.2.2.2.2.2.2.2.2.2.2.2.map eTurn)), (907, .row true 1 (v1003.2.2.2.2.2.2.2.2.2.2.2.1.map vI)), (906, .row true 1 (v1003.2.2.2.2.2.2.2.2.2.2.1.map vI)), (904, .row true 2 (v1003.2.2.2.2.2.2.2.2.1.map eNote)), (901, .row true 1 (v1003.2.2.2.2.2.1.map (eL 1 vI))), (898, .row true 1 (v1003.2.2.1.map vI)), (897, .row true 1 (v1003.2.1.map vI)), (657, .row true 3 (v1001.2.2.2.2.2.2.2.2.2.2.2.2.2.2.2.2.2.map eTurn)), (651, .row true 1 (v1001.2.2.2.2.2.2.2.2.2.2.2.1.map vI)), (650, .row true 1 (v1001.2.2.2.2.2.2.2.2.2.2.1.map vI)), (648, .row true 2 (v1001.2.2.2.2.2.2.2.2.1.map eNote)), (645, .row true 1 (v1001.2.2.2.2.2.1.map (eL 1 vI))), (642, .row true 1 (v1001.2.2.1.map vI)), (641, .row true 1 (v1001.2.1.map vI)), (0, .box [AS v0.1, AL 1 (v0.2.1.map vI), AL 1 (v0.2.2.1.map vI), AI v0.2.2.2.1, AI v0.2.2.2.2.1, AL 1 (v0.2.2.2.2.2.1.map (eL 1 vI)), AI v0.2.2.2.2.2.2.1, AI v0.2.2.2.2.2.2.2.1, AL 2 (v0.2.2.2.2.2.2.2.2.1.map eNote), AS v0.2.2.2.2.2.2.2.2.2.1, AL 1 (v0.2.2.2.2.2.2.2.2.2.2.1.map vI), AL 1 (v0.2.2.2.2.2.2.2.2.2.2.2.1.map vI), AI v0.2.2.2.2.2.2.2.2.2.2.2.2.1, AS v0.2.2.2.2.2.2.2.2.2.2.2.2.2.1, AI v0.2.2.2.2.2.2.2.2.2.2.2.2.2.2.1, AI v0.2.2.2.2.2.2.2.2.2.2.2.2.2.2.2.1, AI v0.2.2.2.2.2.2.2.2.2.2.2.2.2.2.2.2.1, AL 3 (v0.2.2.2.2.2.2.2.2.2.2.2.2.2.2.2.2.2.map eTurn)])] false (con_laws_toWork e1005) c10_ok (by first | rfl | simp) (by simp [res_laws_toWork]) ?_
   obtain ⟨v1006, e1006, hF⟩ := bind_get hF
   refine qc (AB v1006) [(1617, .row true 3 (v1005.2.2.2.2.2.2.2.2.2.2.2.2.2.2.2.2.2.map eTurn)), (1611, .row true 1 (v1005.2.2.2.2.2.2.2.2.2.2.2.1.map vI)), (1610, .row true 1 (v1005.2.2.2.2.2.2.2.2.2.2.1.map vI)), (1608, .row true 2 (v1005.2.2.2.2.2.2.2.2.1.map eNote)), (1605, .row true 1 (v1005.2.2.2.2.2.1.map (eL 1 vI))), (1602, .row true 1 (v1005.2.2.1.map vI)), (1601, .row true 1 (v1005.2.1.map vI)), (960, .box [AS v1003.1, .sl 897 0 v1003.2.1.length, .sl 898 0 v1003.2.2.1.length, AI v1003.2.2.2.1, AI v1003.2.2.2.2.1, .sl 901 0 v1003.2.2.2.2.2.1.length, AI v1003.2.2.2.2.2.2.1, AI v1003.2.2.2.2.2.2.2.1, .sl 904 0 v1003.2.2.2.2.2.2.2.2.1.length, AS v1003.2.2.2.2.2.2.2.2.2.1, .sl 906 0 v1003.2.2.2.2.2.2.2.2.2.2.1.length, .sl 907 0 v1003.2.2.2.2.2.2.2.2.2.2.2.1.length, AI v1003.2.2.2.2.2.2.2.2.2.2.2.2.1, AS v1003.2.2.2.2.2.2.2.2.2.2.2.2.2.1, AI v1003.2.2.2.2.2.2.2.2.2.2.2.2.2.2.1, AI v1003.2.2.2.2.2.2.2.2.2.2.2.2.2.2.2.1, AI v1003.2.2.2.2.2.2.2.2.2.2.2.2.2.2.2.2.1, .sl 913 0 v1003.2.2.2.2.2.2.2.2.2.2.2.2.2.2.2.2.2.length]), (960, .box [AS [], .sl 961 0 0, .sl 962 0 0, AI 0, AI 0, .sl 963 0 0, AI 0, AI 0, .sl 964 0 0, AS [], .sl 965 0 0, .sl 966 0 0, AI 0, AS [], AI 0, AI 0, AI 0, .sl 967 0 0]), (967, .row true 3 (([] : List Int).map vI)), (966, .row true 1 (([] : List Int).map vI)), (965, .row true 1 (([] : List Int).map vI)), (964, .row true 2 (([] : List Int).map vI)), (963, .row true 1 (([] : List Int).map vI)), (962, .row true 1 (([] : List Int).map vI)), (961, .row true 1 (([] : List Int).map vI)), (913, .row true 3 (v1003.2.2.2.2.2.2.2.2.2.2.2.2.2.2.2.2.2.map eTurn)), (907, .row true 1 (v1003.2.2.2.2.2.2.2.2.2.2.2.1.map vI)), (906, .row true 1 (v1003.2.2.2.2.2.2.2.2.2.2.1.map vI)), (904, .row true 2 (v1003.2.2.2.2.2.2.2.2.1.map eNote)), (901, .row true 1 (v1003.2.2.2.2.2.1.map (eL 1 vI))), (898, .row true 1 (v1003.2.2.1.map vI)), (897, .row true 1 (v1003.2.1.map vI)), (657, .row true 3 (v1001.2.2.2.2.2.2.2.2.2.2.2.2.2.2.2.2.2.map eTurn)), (651, .row true 1 (v1001.2.2.2.2.2.2.2.2.2.2.2.1.map vI)), (650, .row true 1 (v1001.2.2.2.2.2.2.2.2.2.2.1.map vI)), (648, .row true 2 (v1001.2.2.2.2.2.2.2.2.1.map eNote)), (645, .row true 1 (v1001.2.2.2.2.2.1.map (eL 1 vI))), (642, .row true 1 (v1001.2.2.1.map vI)), (641, .row true 1 (v1001.2.1.map vI)), (0, .box [AS v0.1, AL 1 (v0.2.1.map vI), AL 1 (v0.2.2.1.map vI), AI v0.2.2.2.1, AI v0.2.2.2.2.1, AL 1 (v0.2.2.2.2.2.1.map (eL 1 vI)), AI v0.2.2.2.2.2.2.1, AI v0.2.2.2.2.2.2.2.1, AL 2 (v0.2.2.2.2.2.2.2.2.1.map eNote), AS v0.2.2.2.2.2.2.2.2.2.1, AL 1 (v0.2.2.2.2.2.2.2.2.2.2.1.map vI), AL 1 (v0.2.2.2.2.2.2.2.2.2.2.2.1.map vI), AI v0.2.2.2.2.2.2.2.2.2.2.2.2.1, AS v0.2.2.2.2.2.2.2.2.2.2.2.2.2.1, AI v0.2.2.2.2.2.2.2.2.2.2.2.2.2.2.1, AI v0.2.2.2.2.2.2.2.2.2.2.2.2.2.2.2.1, AI v0.2.2.2.2.2.2.2.2.2.2.2.2.2.2.2.2.1, AL 3 (v0.2.2.2.2.2.2.2.2.2.2.2.2.2.2.2.2.2.map eTurn)])] true (con_laws_eqWork e1006) c12_ok (by simp [List.take_of_length_le]) rfl ?_
   refine qp (AB (!v1006)) rfl ?_
   refine r_nil ?_
   refine cF hF (fun hF => ?_) fun hF => ?_
   ·
    refine ws 1792 1856 ?_
    refine qp (AB false) rfl ?_
    refine r_nil ?_
    refine w_ret ?_
    refine thenQ_r ?_
    cases hF
    exact eR
   ·
    refine w_skip ?_
    refine thenQ_n ?_
    refine ws 1792 1856 ?_
    refine qp (AB true) rfl ?_
    refine r_nil ?_
    refine w_ret ?_
    cases hF
    exact eR

end Go.Ab
