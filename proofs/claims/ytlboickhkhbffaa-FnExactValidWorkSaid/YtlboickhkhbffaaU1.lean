/- Walks (printed by auto.py, a program of this session's own). -/
import Derived.Test.YtlboickhkhbffaaU0
import Derived.Test.YtlboickhkhbffaaProg
import Derived.KernelRfl
import Derived.Test.YtlboickhkhbffaaSQ
set_option linter.unusedVariables false
set_option linter.unusedSimpArgs false
set_option maxRecDepth 8000
set_option maxHeartbeats 8000000
namespace Go.Ab
open Go.RowKit Go.Proofs

def c271 : MC := (.seq (.reg [rg 2 (.p true (.mv (.c (.bool false))))]) (.seq (.reg [rg 3 (.p false (.mv (.t 0))), rg 4 (.p false (.len (.t 3))), rg 5 (.p false (.bin .eql (.t 4) (.c (.int .i64 2)))), rg 6 (.p false (.mv (.t 5))), ⟨(some 7), (some (6, true)), (.p false (.mv (.t 0)))⟩, ⟨(some 8), (some (6, true)), (.p false (.iad (.t 7) (.c (.int .i64 0)) 1))⟩, ⟨(some 9), (some (6, true)), (.p false (.ld (.t 8) 1 false))⟩, ⟨(some 10), (some (6, true)), (.call false 93 [(.t 9), (.c (.int .i64 0)), (.c (.int .i64 11))])⟩, rg 11 (.p false (.pick (.t 6) (.t 10) (.c (.bool false)))), rg 12 (.p false (.mv (.t 11))), ⟨(some 13), (some (12, true)), (.p false (.mv (.t 0)))⟩, ⟨(some 14), (some (12, true)), (.p false (.iad (.t 13) (.c (.int .i64 1)) 1))⟩, ⟨(some 15), (some (12, true)), (.p false (.ld (.t 14) 1 false))⟩, ⟨(some 16), (some (12, true)), (.call false 93 [(.t 15), (.c (.int .i64 0)), (.c (.int .i64 11))])⟩, rg 17 (.p false (.pick (.t 12) (.t 16) (.c (.bool false)))), rg 18 (.p false (.mv (.t 17))), ⟨(some 19), (some (18, true)), (.p false (.mv (.t 0)))⟩, ⟨(some 20), (some (18, true)), (.p false (.iad (.t 19) (.c (.int .i64 0)) 1))⟩, ⟨(some 21), (some (18, true)), (.p false (.ld (.t 20) 1 false))⟩, ⟨(some 22), (some (18, true)), (.p false (.mv (.t 0)))⟩, ⟨(some 23), (some (18, true)), (.p false (.iad (.t 22) (.c (.int .i64 1)) 1))⟩, ⟨(some 24), (some (18, true)), (.p false (.ld (.t 23) 1 false))⟩, ⟨(some 25), (some (18, true)), (.p false (.bin .neq (.t 21) (.t 24)))⟩, rg 26 (.p false (.pick (.t 18) (.t 25) (.c (.bool false)))), rg 2 (.p false (.mv (.t 26)))]) .ret))
theorem c271_is : compFn Try.prog 271 = some (c271, [(.tmp 2)]) := by kernel_rfl
theorem c271_ok : okFn Try.prog 271 = true := by kernel_rfl

noncomputable def F_spec_l05Pair (v0 : List Int) : Option (Bool) :=
 (bif (decide ((v0.length : Int) = (2 : Int))) then ((ix v0 0).bind fun v1000 => ((F_spec_l00In v1000 0 11).bind fun v1001 => (bif v1001 then ((ix v0 1).bind fun v1002 => ((F_spec_l00In v1002 0 11).bind fun v1003 => (bif v1003 then ((ix v0 0).bind fun v1004 => ((ix v0 1).bind fun v1005 => some (decide (v1004 ≠ v1005))))
 else some false)))
 else some false)))
 else some false)
@[simp] def res_spec_l05Pair (r : Bool) : RV := .one (.one (.val (.bool r)))
theorem con_spec_l05Pair {v0 : List Int} {r : Bool} (hF : F_spec_l05Pair v0 = some r) : Con Try.prog 271 [.sl 1 (v0.map vI)] (res_spec_l05Pair r) := by
 unfold F_spec_l05Pair at hF
 refine con_of c271_is fun N => ?_
 refine ws 0 64 ?_
 refine qp (AB false) rfl ?_
 refine r_nil ?_
 refine ws 64 1664 ?_
 refine qp (AL 1 (v0.map vI)) rfl (qp (AI (v0.length : Int)) (ev_len_n rfl) (qp (AB (decide ((v0.length : Int) = (2 : Int)))) rfl (qp (AB (decide ((v0.length : Int) = (2 : Int)))) rfl ?_)))
 refine q_case 6 hF rfl (fun hF => ?_) (fun hF => ?_)
 ·
  refine qg (AL 1 (v0.map vI)) rfl rfl ?_
  obtain ⟨v1000, e1000, hF⟩ := bind_get hF
  refine qg (.val none (.ptr [.int .i64 v1000])) rfl (ev_iad_n rfl rfl e1000 rfl) (qg (AI v1000) rfl rfl ?_)
  obtain ⟨v1001, e1001, hF⟩ := bind_get hF
  refine qcg (AB v1001) [] false rfl (con_spec_l00In e1001) c93_ok (by first | rfl | simp) rfl ?_
  refine qp (AB v1001) rfl (qp (AB v1001) rfl ?_)
  refine q_case 12 hF rfl (fun hF => ?_) (fun hF => ?_)
  ·
   refine qg (AL 1 (v0.map vI)) rfl rfl ?_
   obtain ⟨v1002, e1002, hF⟩ := bind_get hF
   refine qg (.val none (.ptr [.int .i64 v1002])) rfl (ev_iad_n rfl rfl e1002 rfl) (qg (AI v1002) rfl rfl ?_)
   obtain ⟨v1003, e1003, hF⟩ := bind_get hF
   refine qcg (AB v1003) [] false rfl (con_spec_l00In e1003) c93_ok (by first | rfl | simp) rfl ?_
   refine qp (AB v1003) rfl (qp (AB v1003) rfl ?_)
   refine q_case 18 hF rfl (fun hF => ?_) (fun hF => ?_)
   ·
    refine qg (AL 1 (v0.map vI)) rfl rfl ?_
    obtain ⟨v1004, e1004, hF⟩ := bind_get hF
    refine qg (.val none (.ptr [.int .i64 v1004])) rfl (ev_iad_n rfl rfl e1004 rfl) (qg (AI v1004) rfl rfl (qg (AL 1 (v0.map vI)) rfl rfl ?_))
    obtain ⟨v1005, e1005, hF⟩ := bind_get hF
    refine qg (.val none (.ptr [.int .i64 v1005])) rfl (ev_iad_n rfl rfl e1005 rfl) (qg (AI v1005) rfl rfl (qg (AB (decide (v1004 ≠ v1005))) rfl rfl (qp (AB (decide (v1004 ≠ v1005))) rfl (qp (AB (decide (v1004 ≠ v1005))) rfl ?_))))
    refine r_nil ?_
    refine w_ret ?_
    cases hF
    exact eR
   ·
    refine qn rfl (qn rfl (qn rfl (qn rfl (qn rfl (qn rfl (qn rfl (qp (AB false) rfl ?_)))))))
    refine qp (AB false) rfl ?_
    refine r_nil ?_
    refine w_ret ?_
    cases hF
    exact eR
  ·
   refine qn rfl (qn rfl (qn rfl (qn rfl (qp (AB false) rfl (qp (AB false) rfl (qn rfl (qn rfl ?_)))))))
   refine qn rfl (qn rfl (qn rfl (qn rfl (qn rfl (qp (AB false) rfl (qp (AB false) rfl ?_))))))
   refine r_nil ?_
   refine w_ret ?_
   cases hF
   exact eR
 ·
  refine qn rfl (qn rfl (qn rfl (qn rfl (qp (AB false) rfl (qp (AB false) rfl (qn rfl (qn rfl ?_)))))))
  refine qn rfl (qn rfl (qp (AB false) rfl (qp (AB false) rfl (qn rfl (qn rfl (qn rfl (qn rfl ?_)))))))
  refine qn rfl (qn rfl (qn rfl (qp (AB false) rfl (qp (AB false) rfl ?_))))
  refine r_nil ?_
  refine w_ret ?_
  cases hF
  exact eR

def c224 : MC := (.seq (.reg [rg 2 (.p true (.mv (.c (.bool false))))]) (.seq (.seq (.reg [rg 3 (.p true (.mv (.c (.int .i64 0))))]) (.block 0 (.loop (.seq (.seq (.reg [mvt 4 3, mvt 5 0, rg 6 (.p true (.len (.t 5))), rg 7 (.p true (.bin .lss (.t 4) (.t 6)))]) (.cond (.t 7) .skip (.exit 0))) (.seq (.block 1 (.seq (.seq (.reg [mvt 10 0, mvt 11 3, rg 12 (.p true (.iad (.t 10) (.t 11) 1)), rg 13 (.p true (.ld (.t 12) 1 false)), rg 14 (.call true 271 [(.t 13)]), rg 15 (.p true (.not (.t 14)))]) (.cond (.t 15) (.seq (.reg [rg 2 (.p true (.mv (.c (.bool false))))]) .ret) .skip)) (.seq (.reg [rg 16 (.p false (.mv (.t 3))), rg 17 (.p false (.bin .gtr (.t 16) (.c (.int .i64 0)))), rg 18 (.p false (.mv (.t 17))), ⟨(some 19), (some (18, true)), (.p false (.mv (.t 0)))⟩, ⟨(some 20), (some (18, true)), (.p false (.mv (.t 3)))⟩, ⟨(some 21), (some (18, true)), (.p false (.bin .sub (.t 20) (.c (.int .i64 1))))⟩, ⟨(some 22), (some (18, true)), (.p false (.iad (.t 19) (.t 21) 1))⟩, ⟨(some 23), (some (18, true)), (.p false (.ld (.t 22) 1 false))⟩, ⟨(some 24), (some (18, true)), (.p false (.iad (.t 23) (.c (.int .i64 0)) 1))⟩, ⟨(some 25), (some (18, true)), (.p false (.ld (.t 24) 1 false))⟩, ⟨(some 26), (some (18, true)), (.p false (.mv (.t 0)))⟩, ⟨(some 27), (some (18, true)), (.p false (.mv (.t 3)))⟩, ⟨(some 28), (some (18, true)), (.p false (.iad (.t 26) (.t 27) 1))⟩, ⟨(some 29), (some (18, true)), (.p false (.ld (.t 28) 1 false))⟩, ⟨(some 30), (some (18, true)), (.p false (.iad (.t 29) (.c (.int .i64 0)) 1))⟩, ⟨(some 31), (some (18, true)), (.p false (.ld (.t 30) 1 false))⟩, ⟨(some 32), (some (18, true)), (.p false (.bin .gtr (.t 25) (.t 31)))⟩, ⟨(some 33), (some (18, true)), (.p false (.mv (.t 32)))⟩, ⟨(some 34), (some (33, false)), (.p false (.mv (.t 0)))⟩, ⟨(some 35), (some (33, false)), (.p false (.mv (.t 3)))⟩, ⟨(some 36), (some (33, false)), (.p false (.bin .sub (.t 35) (.c (.int .i64 1))))⟩, ⟨(some 37), (some (33, false)), (.p false (.iad (.t 34) (.t 36) 1))⟩, ⟨(some 38), (some (33, false)), (.p false (.ld (.t 37) 1 false))⟩, ⟨(some 39), (some (33, false)), (.p false (.iad (.t 38) (.c (.int .i64 0)) 1))⟩, ⟨(some 40), (some (33, false)), (.p false (.ld (.t 39) 1 false))⟩, ⟨(some 41), (some (33, false)), (.p false (.mv (.t 0)))⟩, ⟨(some 42), (some (33, false)), (.p false (.mv (.t 3)))⟩, ⟨(some 43), (some (33, false)), (.p false (.iad (.t 41) (.t 42) 1))⟩, ⟨(some 44), (some (33, false)), (.p false (.ld (.t 43) 1 false))⟩, ⟨(some 45), (some (33, false)), (.p false (.iad (.t 44) (.c (.int .i64 0)) 1))⟩, ⟨(some 46), (some (33, false)), (.p false (.ld (.t 45) 1 false))⟩, ⟨(some 47), (some (33, false)), (.p false (.bin .eql (.t 40) (.t 46)))⟩, ⟨(some 48), (some (33, false)), (.p false (.mv (.t 47)))⟩, ⟨(some 49), (some (48, true)), (.p false (.mv (.t 0)))⟩, ⟨(some 50), (some (48, true)), (.p false (.mv (.t 3)))⟩, ⟨(some 51), (some (48, true)), (.p false (.bin .sub (.t 50) (.c (.int .i64 1))))⟩, ⟨(some 52), (some (48, true)), (.p false (.iad (.t 49) (.t 51) 1))⟩, ⟨(some 53), (some (48, true)), (.p false (.ld (.t 52) 1 false))⟩, ⟨(some 54), (some (48, true)), (.p false (.iad (.t 53) (.c (.int .i64 1)) 1))⟩, ⟨(some 55), (some (48, true)), (.p false (.ld (.t 54) 1 false))⟩, ⟨(some 56), (some (48, true)), (.p false (.mv (.t 0)))⟩, ⟨(some 57), (some (48, true)), (.p false (.mv (.t 3)))⟩, ⟨(some 58), (some (48, true)), (.p false (.iad (.t 56) (.t 57) 1))⟩, ⟨(some 59), (some (48, true)), (.p false (.ld (.t 58) 1 false))⟩, ⟨(some 60), (some (48, true)), (.p false (.iad (.t 59) (.c (.int .i64 1)) 1))⟩, ⟨(some 61), (some (48, true)), (.p false (.ld (.t 60) 1 false))⟩, ⟨(some 62), (some (48, true)), (.p false (.bin .geq (.t 55) (.t 61)))⟩, ⟨(some 63), (some (33, false)), (.p false (.pick (.t 48) (.t 62) (.c (.bool false))))⟩, ⟨(some 64), (some (18, true)), (.p false (.pick (.t 33) (.c (.bool true)) (.t 63)))⟩, rg 65 (.p false (.pick (.t 18) (.t 64) (.c (.bool false))))]) (.cond (.t 65) (.seq (.reg [rg 2 (.p true (.mv (.c (.bool false))))]) .ret) .skip)))) (.reg [mvt 8 3, rg 9 (.p true (.bin .add (.t 8) (.c (.int .i64 1)))), mvt 3 9])))))) (.seq (.reg [mvt 66 0, rg 67 (.p true (.len (.t 66))), rg 68 (.p true (.bin .leq (.t 67) (.c (.int .i64 8)))), mvt 2 68]) .ret)))
theorem c224_is : compFn Try.prog 224 = some (c224, [(.tmp 2)]) := by kernel_rfl
theorem c224_ok : okFn Try.prog 224 = true := by kernel_rfl

noncomputable def F_spec_l05Pairs_l0 (v0 : List (List Int)) (k0 : Int → Option (Bool)) : Int → Option (Bool)
 | v30 => (bif (decide (v30 < (v0.length : Int))) then ((ix v0 v30).bind fun v1000 => ((F_spec_l05Pair v1000).bind fun v1001 => (bif (!v1001) then some false
 else (bif (decide ((0 : Int) < v30)) then ((ix v0 (w64 (v30 - 1))).bind fun v1002 => ((ix v1002 0).bind fun v1003 => ((ix v0 v30).bind fun v1004 => ((ix v1004 0).bind fun v1005 => (bif (decide (v1005 < v1003)) then some false
 else ((ix v0 (w64 (v30 - 1))).bind fun v1006 => ((ix v1006 0).bind fun v1007 => ((ix v0 v30).bind fun v1008 => ((ix v1008 0).bind fun v1009 => (bif (decide (v1007 = v1009)) then ((ix v0 (w64 (v30 - 1))).bind fun v1010 => ((ix v1010 1).bind fun v1011 => ((ix v0 v30).bind fun v1012 => ((ix v1012 1).bind fun v1013 => (bif (decide (v1013 ≤ v1011)) then some false
 else k0 (w64 (v30 + 1)))))))
 else k0 (w64 (v30 + 1))))))))))))
 else k0 (w64 (v30 + 1))))))
 else some (decide ((v0.length : Int) ≤ (8 : Int))))
noncomputable def F_spec_l05Pairs (v0 : List (List Int)) : Option (Bool) :=
 loop (F_spec_l05Pairs_l0 v0) 0
@[simp] def res_spec_l05Pairs (r : Bool) : RV := .one (.one (.val (.bool r)))
theorem con_spec_l05Pairs {v0 : List (List Int)} {r : Bool} (hF : F_spec_l05Pairs v0 = some r) : Con Try.prog 224 [.sl 1 (v0.map (eL 1 vI))] (res_spec_l05Pairs r) := by
 unfold F_spec_l05Pairs at hF
 refine con_of c224_is fun N => ?_
 refine ws 0 64 ?_
 refine qp (AB false) rfl ?_
 refine r_nil ?_
 refine w_seq ?_
 refine ws 64 128 ?_
 refine qp (AI 0) rfl ?_
 refine r_nil ?_
 refine w_block ?_
 refine wr (l' := [(0, AL 1 (v0.map (eL 1 vI))), (3, AI 0)]) (L := []) [0, 3] [] 1 ?_
 refine w_loopF (F_spec_l05Pairs_l0 v0) (fun s : Int => mkS [(0, AL 1 (v0.map (eL 1 vI))), (3, AI s)] (fo []) 1) hF ?_
 rintro k0 v30 hF
 rw [F_spec_l05Pairs_l0] at hF
 try dsimp only
 refine w_seq ?_
 refine ws 1 257 ?_
 refine qp (AI v30) rfl (qp (AL 1 (v0.map (eL 1 vI))) rfl (qp (AI (v0.length : Int)) (ev_len_n rfl) (qp (AB (decide (v30 < (v0.length : Int)))) rfl ?_)))
 refine r_nil ?_
 refine cF hF (fun hF => ?_) fun hF => ?_
 ·
  refine w_skip ?_
  refine thenQ_n ?_
  refine w_seq ?_
  refine w_block ?_
  refine w_seq ?_
  refine ws 257 641 ?_
  refine qp (AL 1 (v0.map (eL 1 vI))) rfl (qp (AI v30) rfl ?_)
  obtain ⟨v1000, e1000, hF⟩ := bind_get hF
  refine qp (.val none (.ptr [.sl 1 (v1000.map vI)])) (ev_iad_n rfl rfl e1000 rfl) (qp (AL 1 (v1000.map vI)) rfl ?_)
  obtain ⟨v1001, e1001, hF⟩ := bind_get hF
  refine qc (AB v1001) [] false (con_spec_l05Pair e1001) c271_ok (by first | rfl | simp) rfl ?_
  refine qp (AB (!v1001)) rfl ?_
  refine r_nil ?_
  refine cF hF (fun hF => ?_) fun hF => ?_
  ·
   refine ws 641 705 ?_
   refine qp (AB false) rfl ?_
   refine r_nil ?_
   refine w_ret ?_
   refine thenQ_r ?_
   refine blockQ_r ?_
   refine thenQ_r ?_
   refine thenQ_r ?_
   refine blockQ_r ?_
   refine thenQ_r ?_
   cases hF
   exact eR
  ·
   refine w_skip ?_
   refine thenQ_n ?_
   refine ws 641 3841 ?_
   refine qp (AI v30) rfl (qp (AB (decide ((0 : Int) < v30))) rfl (qp (AB (decide ((0 : Int) < v30))) rfl ?_))
   refine q_case 18 hF rfl (fun hF => ?_) (fun hF => ?_)
   ·
    refine qg (AL 1 (v0.map (eL 1 vI))) rfl rfl (qg (AI v30) rfl rfl (qg (AI (w64 (v30 - 1))) rfl rfl ?_))
    obtain ⟨v1002, e1002, hF⟩ := bind_get hF
    refine qg (.val none (.ptr [.sl 1 (v1002.map vI)])) rfl (ev_iad_n rfl rfl e1002 rfl) (qg (AL 1 (v1002.map vI)) rfl rfl ?_)
    obtain ⟨v1003, e1003, hF⟩ := bind_get hF
    refine qg (.val none (.ptr [.int .i64 v1003])) rfl (ev_iad_n rfl rfl e1003 rfl) (qg (AI v1003) rfl rfl (qg (AL 1 (v0.map (eL 1 vI))) rfl rfl (qg (AI v30) rfl rfl ?_)))
    obtain ⟨v1004, e1004, hF⟩ := bind_get hF
    refine qg (.val none (.ptr [.sl 1 (v1004.map vI)])) rfl (ev_iad_n rfl rfl e1004 rfl) (qg (AL 1 (v1004.map vI)) rfl rfl ?_)
    obtain ⟨v1005, e1005, hF⟩ := bind_get hF
    refine qg (.val none (.ptr [.int .i64 v1005])) rfl (ev_iad_n rfl rfl e1005 rfl) (qg (AI v1005) rfl rfl (qg (AB (decide (v1005 < v1003))) rfl rfl (qg (AB (decide (v1005 < v1003))) rfl rfl ?_)))
    refine q_case 33 hF rfl (fun hF => ?_) (fun hF => ?_)
    ·
     refine qn rfl (qn rfl (qn rfl (qn rfl (qn rfl (qn rfl (qn rfl (qn rfl ?_)))))))
     refine qn rfl (qn rfl (qn rfl (qn rfl (qn rfl (qn rfl (qn rfl (qu rfl ?_)))))))
     refine qu rfl (qu rfl (qu rfl (qu rfl (qu rfl (qu rfl (qu rfl (qu rfl ?_)))))))
     refine qu rfl (qu rfl (qu rfl (qu rfl (qu rfl (qn rfl (qg (AB true) rfl rfl (qp (AB true) rfl ?_)))))))
     refine r_nil ?_
     refine w_true rfl ?_
     refine ws 3841 3905 ?_
     refine qp (AB false) rfl ?_
     refine r_nil ?_
     refine w_ret ?_
     refine blockQ_r ?_
     refine thenQ_r ?_
     refine thenQ_r ?_
     refine blockQ_r ?_
     refine thenQ_r ?_
     cases hF
     exact eR
    ·
     refine qg (AL 1 (v0.map (eL 1 vI))) rfl rfl (qg (AI v30) rfl rfl (qg (AI (w64 (v30 - 1))) rfl rfl ?_))
     obtain ⟨v1006, e1006, hF⟩ := bind_get hF
     refine qg (.val none (.ptr [.sl 1 (v1006.map vI)])) rfl (ev_iad_n rfl rfl e1006 rfl) (qg (AL 1 (v1006.map vI)) rfl rfl ?_)
     obtain ⟨v1007, e1007, hF⟩ := bind_get hF
     refine qg (.val none (.ptr [.int .i64 v1007])) rfl (ev_iad_n rfl rfl e1007 rfl) (qg (AI v1007) rfl rfl (qg (AL 1 (v0.map (eL 1 vI))) rfl rfl (qg (AI v30) rfl rfl ?_)))
     obtain ⟨v1008, e1008, hF⟩ := bind_get hF
     refine qg (.val none (.ptr [.sl 1 (v1008.map vI)])) rfl (ev_iad_n rfl rfl e1008 rfl) (qg (AL 1 (v1008.map vI)) rfl rfl ?_)
     obtain ⟨v1009, e1009, hF⟩ := bind_get hF
     refine qg (.val none (.ptr [.int .i64 v1009])) rfl (ev_iad_n rfl rfl e1009 rfl) (qg (AI v1009) rfl rfl (qg (AB (decide (v1007 = v1009))) rfl rfl (qg (AB (decide (v1007 = v1009))) rfl rfl ?_)))
     refine q_case 48 hF rfl (fun hF => ?_) (fun hF => ?_)
     ·
      refine qg (AL 1 (v0.map (eL 1 vI))) rfl rfl (qg (AI v30) rfl rfl (qg (AI (w64 (v30 - 1))) rfl rfl ?_))
      obtain ⟨v1010, e1010, hF⟩ := bind_get hF
      refine qg (.val none (.ptr [.sl 1 (v1010.map vI)])) rfl (ev_iad_n rfl rfl e1010 rfl) (qg (AL 1 (v1010.map vI)) rfl rfl ?_)
      obtain ⟨v1011, e1011, hF⟩ := bind_get hF
      refine qg (.val none (.ptr [.int .i64 v1011])) rfl (ev_iad_n rfl rfl e1011 rfl) (qg (AI v1011) rfl rfl (qg (AL 1 (v0.map (eL 1 vI))) rfl rfl (qg (AI v30) rfl rfl ?_)))
      obtain ⟨v1012, e1012, hF⟩ := bind_get hF
      refine qg (.val none (.ptr [.sl 1 (v1012.map vI)])) rfl (ev_iad_n rfl rfl e1012 rfl) (qg (AL 1 (v1012.map vI)) rfl rfl ?_)
      obtain ⟨v1013, e1013, hF⟩ := bind_get hF
      refine qg (.val none (.ptr [.int .i64 v1013])) rfl (ev_iad_n rfl rfl e1013 rfl) (qg (AI v1013) rfl rfl (qg (AB (decide (v1013 ≤ v1011))) rfl rfl (qg (AB (decide (v1013 ≤ v1011))) rfl rfl (qg (AB (decide (v1013 ≤ v1011))) rfl rfl (qp (AB (decide (v1013 ≤ v1011))) rfl ?_)))))
      refine r_nil ?_
      refine cF hF (fun hF => ?_) fun hF => ?_
      ·
       refine ws 3841 3905 ?_
       refine qp (AB false) rfl ?_
       refine r_nil ?_
       refine w_ret ?_
       refine blockQ_r ?_
       refine thenQ_r ?_
       refine thenQ_r ?_
       refine blockQ_r ?_
       refine thenQ_r ?_
       cases hF
       exact eR
      ·
       refine w_skip ?_
       refine blockQ_n ?_
       refine thenQ_n ?_
       refine w_reg 3841 4033 rfl rfl ?_
       refine qp (AI v30) rfl (qp (AI (w64 (v30 + 1))) rfl (qp (AI (w64 (v30 + 1))) rfl ?_))
       refine r_nil ?_
       refine thenQ_n ?_
       refine ar (l' := [(0, AL 1 (v0.map (eL 1 vI))), (3, AI (w64 (v30 + 1)))]) (L := []) [0, 3] [] 1 ⟨_, by rfl, hF⟩
     ·
      refine qn rfl (qn rfl (qn rfl (qn rfl (qn rfl (qn rfl (qn rfl (qn rfl ?_)))))))
      refine qn rfl (qn rfl (qn rfl (qn rfl (qn rfl (qn rfl (qg (AB false) rfl rfl (qg (AB false) rfl rfl ?_)))))))
      refine qp (AB false) rfl ?_
      refine r_nil ?_
      refine w_false rfl ?_
      refine w_skip ?_
      refine blockQ_n ?_
      refine thenQ_n ?_
      refine w_reg 3841 4033 rfl rfl ?_
      refine qp (AI v30) rfl (qp (AI (w64 (v30 + 1))) rfl (qp (AI (w64 (v30 + 1))) rfl ?_))
      refine r_nil ?_
      refine thenQ_n ?_
      refine ar (l' := [(0, AL 1 (v0.map (eL 1 vI))), (3, AI (w64 (v30 + 1)))]) (L := []) [0, 3] [] 1 ⟨_, by rfl, hF⟩
   ·
    refine qn rfl (qn rfl (qn rfl (qn rfl (qn rfl (qn rfl (qn rfl (qn rfl ?_)))))))
    refine qn rfl (qn rfl (qn rfl (qn rfl (qn rfl (qn rfl (qn rfl (qu rfl ?_)))))))
    refine qu rfl (qu rfl (qu rfl (qu rfl (qu rfl (qu rfl (qu rfl (qu rfl ?_)))))))
    refine qu rfl (qu rfl (qu rfl (qu rfl (qu rfl (qu rfl (qu rfl (qu rfl ?_)))))))
    refine qu rfl (qu rfl (qu rfl (qu rfl (qu rfl (qu rfl (qu rfl (qu rfl ?_)))))))
    refine qu rfl (qu rfl (qu rfl (qu rfl (qu rfl (qn rfl (qp (AB false) rfl ?_))))))
    refine r_nil ?_
    refine w_false rfl ?_
    refine w_skip ?_
    refine blockQ_n ?_
    refine thenQ_n ?_
    refine w_reg 3841 4033 rfl rfl ?_
    refine qp (AI v30) rfl (qp (AI (w64 (v30 + 1))) rfl (qp (AI (w64 (v30 + 1))) rfl ?_))
    refine r_nil ?_
    refine thenQ_n ?_
    refine ar (l' := [(0, AL 1 (v0.map (eL 1 vI))), (3, AI (w64 (v30 + 1)))]) (L := []) [0, 3] [] 1 ⟨_, by rfl, hF⟩
 ·
  refine w_exit ?_
  refine thenQ_e ?_
  refine thenQ_e ?_
  refine blockQ_e ?_
  refine thenQ_n ?_
  refine ws 257 513 ?_
  refine qp (AL 1 (v0.map (eL 1 vI))) rfl (qp (AI (v0.length : Int)) (ev_len_n rfl) (qp (AB (decide ((v0.length : Int) ≤ (8 : Int)))) rfl (qp (AB (decide ((v0.length : Int) ≤ (8 : Int)))) rfl ?_)))
  refine r_nil ?_
  refine w_ret ?_
  cases hF
  exact eR

def c141 : MC := (.seq (.reg [rg 2 (.p true (.mv (.c (.bool false))))]) (.seq (.reg [rg 3 (.p false (.mv (.t 0))), rg 4 (.p false (.nck (.t 3))), rg 5 (.p false (.fad (.t 4) 0)), rg 6 (.p false (.ld (.t 5) 1 false)), rg 7 (.call false 94 [(.t 6)]), rg 8 (.p false (.mv (.t 7))), ⟨(some 9), (some (8, true)), (.p false (.mv (.t 0)))⟩, ⟨(some 10), (some (8, true)), (.p false (.nck (.t 9)))⟩, ⟨(some 11), (some (8, true)), (.p false (.fad (.t 10) 1))⟩, ⟨(some 12), (some (8, true)), (.p false (.ld (.t 11) 1 false))⟩, ⟨(some 13), (some (8, true)), (.call false 222 [(.t 12)])⟩, rg 14 (.p false (.pick (.t 8) (.t 13) (.c (.bool false)))), rg 15 (.p false (.mv (.t 14))), ⟨(some 16), (some (15, true)), (.p false (.mv (.t 0)))⟩, ⟨(some 17), (some (15, true)), (.p false (.nck (.t 16)))⟩, ⟨(some 18), (some (15, true)), (.p false (.fad (.t 17) 2))⟩, ⟨(some 19), (some (15, true)), (.p false (.ld (.t 18) 1 false))⟩, ⟨(some 20), (some (15, true)), (.call false 222 [(.t 19)])⟩, rg 21 (.p false (.pick (.t 15) (.t 20) (.c (.bool false)))), rg 22 (.p false (.mv (.t 21))), ⟨(some 23), (some (22, true)), (.p false (.mv (.t 0)))⟩, ⟨(some 24), (some (22, true)), (.p false (.mv (.t 0)))⟩, ⟨(some 25), (some (22, true)), (.p false (.nck (.t 24)))⟩, ⟨(some 26), (some (22, true)), (.p false (.fad (.t 25) 3))⟩, ⟨(some 27), (some (22, true)), (.p false (.ld (.t 26) 1 false))⟩, ⟨(some 28), (some (22, true)), (.call false 223 [(.t 23), (.t 27)])⟩, rg 29 (.p false (.pick (.t 22) (.t 28) (.c (.bool false)))), rg 30 (.p false (.mv (.t 29))), ⟨(some 31), (some (30, true)), (.p false (.mv (.t 0)))⟩, ⟨(some 32), (some (30, true)), (.p false (.mv (.t 0)))⟩, ⟨(some 33), (some (30, true)), (.p false (.nck (.t 32)))⟩, ⟨(some 34), (some (30, true)), (.p false (.fad (.t 33) 4))⟩, ⟨(some 35), (some (30, true)), (.p false (.ld (.t 34) 1 false))⟩, ⟨(some 36), (some (30, true)), (.call false 223 [(.t 31), (.t 35)])⟩, rg 37 (.p false (.pick (.t 30) (.t 36) (.c (.bool false)))), rg 38 (.p false (.mv (.t 37))), ⟨(some 39), (some (38, true)), (.p false (.mv (.t 0)))⟩, ⟨(some 40), (some (38, true)), (.p false (.nck (.t 39)))⟩, ⟨(some 41), (some (38, true)), (.p false (.fad (.t 40) 3))⟩, ⟨(some 42), (some (38, true)), (.p false (.ld (.t 41) 1 false))⟩, ⟨(some 43), (some (38, true)), (.p false (.mv (.t 0)))⟩, ⟨(some 44), (some (38, true)), (.p false (.nck (.t 43)))⟩, ⟨(some 45), (some (38, true)), (.p false (.fad (.t 44) 4))⟩, ⟨(some 46), (some (38, true)), (.p false (.ld (.t 45) 1 false))⟩, ⟨(some 47), (some (38, true)), (.p false (.bin .neq (.t 42) (.t 46)))⟩, rg 48 (.p false (.pick (.t 38) (.t 47) (.c (.bool false)))), rg 49 (.p false (.mv (.t 48))), ⟨(some 50), (some (49, true)), (.p false (.mv (.t 0)))⟩, ⟨(some 51), (some (49, true)), (.p false (.nck (.t 50)))⟩, ⟨(some 52), (some (49, true)), (.p false (.fad (.t 51) 5))⟩, ⟨(some 53), (some (49, true)), (.p false (.ld (.t 52) 1 false))⟩, ⟨(some 54), (some (49, true)), (.call false 224 [(.t 53)])⟩, rg 55 (.p false (.pick (.t 49) (.t 54) (.c (.bool false)))), rg 2 (.p false (.mv (.t 55)))]) .ret))
theorem c141_is : compFn Try.prog 141 = some (c141, [(.tmp 2)]) := by kernel_rfl
theorem c141_ok : okFn Try.prog 141 = true := by kernel_rfl

noncomputable def F_spec_l05Ok (v0 : TRaga) : Option (Bool) :=
 ((F_spec_l01Name v0.1).bind fun v1000 => (bif v1000 then ((F_spec_l03Scale v0.2.1).bind fun v1001 => (bif v1001 then ((F_spec_l03Scale v0.2.2.1).bind fun v1002 => (bif v1002 then ((F_spec_l05Tone v0 v0.2.2.2.1).bind fun v1003 => (bif v1003 then ((F_spec_l05Tone v0 v0.2.2.2.2.1).bind fun v1004 => (bif v1004 then (bif (decide (v0.2.2.2.1 ≠ v0.2.2.2.2.1)) then ((F_spec_l05Pairs v0.2.2.2.2.2).bind fun v1005 => some v1005)
 else some false)
 else some false))
 else some false))
 else some false))
 else some false))
 else some false))
@[simp] def res_spec_l05Ok (r : Bool) : RV := .one (.one (.val (.bool r)))
theorem con_spec_l05Ok {v0 : TRaga} {r : Bool} (hF : F_spec_l05Ok v0 = some r) : Con Try.prog 141 [.ptr [.str v0.1, .sl 1 (v0.2.1.map vI), .sl 1 (v0.2.2.1.map vI), .int .i64 v0.2.2.2.1, .int .i64 v0.2.2.2.2.1, .sl 1 (v0.2.2.2.2.2.map (eL 1 vI))]] (res_spec_l05Ok r) := by
 unfold F_spec_l05Ok at hF
 refine con_of c141_is fun N => ?_
 refine ws 0 64 ?_
 refine qp (AB false) rfl ?_
 refine r_nil ?_
 refine ws 64 3520 ?_
 refine qp (.val none (.ptr [.str v0.1, .sl 1 (v0.2.1.map vI), .sl 1 (v0.2.2.1.map vI), .int .i64 v0.2.2.2.1, .int .i64 v0.2.2.2.2.1, .sl 1 (v0.2.2.2.2.2.map (eL 1 vI))])) rfl (qp (.val none (.ptr [.str v0.1, .sl 1 (v0.2.1.map vI), .sl 1 (v0.2.2.1.map vI), .int .i64 v0.2.2.2.1, .int .i64 v0.2.2.2.2.1, .sl 1 (v0.2.2.2.2.2.map (eL 1 vI))])) rfl (qp (.val none (.ptr [.str v0.1, .sl 1 (v0.2.1.map vI), .sl 1 (v0.2.2.1.map vI), .int .i64 v0.2.2.2.1, .int .i64 v0.2.2.2.2.1, .sl 1 (v0.2.2.2.2.2.map (eL 1 vI))])) rfl (qp (AS v0.1) rfl ?_)))
 obtain ⟨v1000, e1000, hF⟩ := bind_get hF
 refine qc (AB v1000) [] false (con_spec_l01Name e1000) c94_ok (by first | rfl | simp) rfl ?_
 refine qp (AB v1000) rfl ?_
 refine q_case 8 hF rfl (fun hF => ?_) (fun hF => ?_)
 ·
  refine qg (.val none (.ptr [.str v0.1, .sl 1 (v0.2.1.map vI), .sl 1 (v0.2.2.1.map vI), .int .i64 v0.2.2.2.1, .int .i64 v0.2.2.2.2.1, .sl 1 (v0.2.2.2.2.2.map (eL 1 vI))])) rfl rfl (qg (.val none (.ptr [.str v0.1, .sl 1 (v0.2.1.map vI), .sl 1 (v0.2.2.1.map vI), .int .i64 v0.2.2.2.1, .int .i64 v0.2.2.2.2.1, .sl 1 (v0.2.2.2.2.2.map (eL 1 vI))])) rfl rfl (qg (.val none (.ptr [.sl 1 (v0.2.1.map vI), .sl 1 (v0.2.2.1.map vI), .int .i64 v0.2.2.2.1, .int .i64 v0.2.2.2.2.1, .sl 1 (v0.2.2.2.2.2.map (eL 1 vI))])) rfl rfl (qg (AL 1 (v0.2.1.map vI)) rfl rfl ?_)))
  obtain ⟨v1001, e1001, hF⟩ := bind_get hF
  refine qcg (AB v1001) [] false rfl (con_spec_l03Scale e1001) c222_ok (by first | rfl | simp) rfl ?_
  refine qp (AB v1001) rfl (qp (AB v1001) rfl ?_)
  refine q_case 15 hF rfl (fun hF => ?_) (fun hF => ?_)
  ·
   refine qg (.val none (.ptr [.str v0.1, .sl 1 (v0.2.1.map vI), .sl 1 (v0.2.2.1.map vI), .int .i64 v0.2.2.2.1, .int .i64 v0.2.2.2.2.1, .sl 1 (v0.2.2.2.2.2.map (eL 1 vI))])) rfl rfl (qg (.val none (.ptr [.str v0.1, .sl 1 (v0.2.1.map vI), .sl 1 (v0.2.2.1.map vI), .int .i64 v0.2.2.2.1, .int .i64 v0.2.2.2.2.1, .sl 1 (v0.2.2.2.2.2.map (eL 1 vI))])) rfl rfl (qg (.val none (.ptr [.sl 1 (v0.2.2.1.map vI), .int .i64 v0.2.2.2.1, .int .i64 v0.2.2.2.2.1, .sl 1 (v0.2.2.2.2.2.map (eL 1 vI))])) rfl rfl (qg (AL 1 (v0.2.2.1.map vI)) rfl rfl ?_)))
   obtain ⟨v1002, e1002, hF⟩ := bind_get hF
   refine qcg (AB v1002) [] false rfl (con_spec_l03Scale e1002) c222_ok (by first | rfl | simp) rfl ?_
   refine qp (AB v1002) rfl (qp (AB v1002) rfl ?_)
   refine q_case 22 hF rfl (fun hF => ?_) (fun hF => ?_)
   ·
    refine qg (.val none (.ptr [.str v0.1, .sl 1 (v0.2.1.map vI), .sl 1 (v0.2.2.1.map vI), .int .i64 v0.2.2.2.1, .int .i64 v0.2.2.2.2.1, .sl 1 (v0.2.2.2.2.2.map (eL 1 vI))])) rfl rfl (qg (.val none (.ptr [.str v0.1, .sl 1 (v0.2.1.map vI), .sl 1 (v0.2.2.1.map vI), .int .i64 v0.2.2.2.1, .int .i64 v0.2.2.2.2.1, .sl 1 (v0.2.2.2.2.2.map (eL 1 vI))])) rfl rfl (qg (.val none (.ptr [.str v0.1, .sl 1 (v0.2.1.map vI), .sl 1 (v0.2.2.1.map vI), .int .i64 v0.2.2.2.1, .int .i64 v0.2.2.2.2.1, .sl 1 (v0.2.2.2.2.2.map (eL 1 vI))])) rfl rfl (qg (.val none (.ptr [.int .i64 v0.2.2.2.1, .int .i64 v0.2.2.2.2.1, .sl 1 (v0.2.2.2.2.2.map (eL 1 vI))])) rfl rfl (qg (AI v0.2.2.2.1) rfl rfl ?_))))
    obtain ⟨v1003, e1003, hF⟩ := bind_get hF
    refine qcg (AB v1003) [] false rfl (con_spec_l05Tone e1003) c223_ok (by first | rfl | simp) rfl ?_
    refine qp (AB v1003) rfl (qp (AB v1003) rfl ?_)
    refine q_case 30 hF rfl (fun hF => ?_) (fun hF => ?_)
    ·
     refine qg (.val none (.ptr [.str v0.1, .sl 1 (v0.2.1.map vI), .sl 1 (v0.2.2.1.map vI), .int .i64 v0.2.2.2.1, .int .i64 v0.2.2.2.2.1, .sl 1 (v0.2.2.2.2.2.map (eL 1 vI))])) rfl rfl (qg (.val none (.ptr [.str v0.1, .sl 1 (v0.2.1.map vI), .sl 1 (v0.2.2.1.map vI), .int .i64 v0.2.2.2.1, .int .i64 v0.2.2.2.2.1, .sl 1 (v0.2.2.2.2.2.map (eL 1 vI))])) rfl rfl (qg (.val none (.ptr [.str v0.1, .sl 1 (v0.2.1.map vI), .sl 1 (v0.2.2.1.map vI), .int .i64 v0.2.2.2.1, .int .i64 v0.2.2.2.2.1, .sl 1 (v0.2.2.2.2.2.map (eL 1 vI))])) rfl rfl (qg (.val none (.ptr [.int .i64 v0.2.2.2.2.1, .sl 1 (v0.2.2.2.2.2.map (eL 1 vI))])) rfl rfl (qg (AI v0.2.2.2.2.1) rfl rfl ?_))))
     obtain ⟨v1004, e1004, hF⟩ := bind_get hF
     refine qcg (AB v1004) [] false rfl (con_spec_l05Tone e1004) c223_ok (by first | rfl | simp) rfl ?_
     refine qp (AB v1004) rfl (qp (AB v1004) rfl ?_)
     refine q_case 38 hF rfl (fun hF => ?_) (fun hF => ?_)
     ·
      refine qg (.val none (.ptr [.str v0.1, .sl 1 (v0.2.1.map vI), .sl 1 (v0.2.2.1.map vI), .int .i64 v0.2.2.2.1, .int .i64 v0.2.2.2.2.1, .sl 1 (v0.2.2.2.2.2.map (eL 1 vI))])) rfl rfl (qg (.val none (.ptr [.str v0.1, .sl 1 (v0.2.1.map vI), .sl 1 (v0.2.2.1.map vI), .int .i64 v0.2.2.2.1, .int .i64 v0.2.2.2.2.1, .sl 1 (v0.2.2.2.2.2.map (eL 1 vI))])) rfl rfl (qg (.val none (.ptr [.int .i64 v0.2.2.2.1, .int .i64 v0.2.2.2.2.1, .sl 1 (v0.2.2.2.2.2.map (eL 1 vI))])) rfl rfl (qg (AI v0.2.2.2.1) rfl rfl (qg (.val none (.ptr [.str v0.1, .sl 1 (v0.2.1.map vI), .sl 1 (v0.2.2.1.map vI), .int .i64 v0.2.2.2.1, .int .i64 v0.2.2.2.2.1, .sl 1 (v0.2.2.2.2.2.map (eL 1 vI))])) rfl rfl (qg (.val none (.ptr [.str v0.1, .sl 1 (v0.2.1.map vI), .sl 1 (v0.2.2.1.map vI), .int .i64 v0.2.2.2.1, .int .i64 v0.2.2.2.2.1, .sl 1 (v0.2.2.2.2.2.map (eL 1 vI))])) rfl rfl (qg (.val none (.ptr [.int .i64 v0.2.2.2.2.1, .sl 1 (v0.2.2.2.2.2.map (eL 1 vI))])) rfl rfl (qg (AI v0.2.2.2.2.1) rfl rfl ?_)))))))
      refine qg (AB (decide (v0.2.2.2.1 ≠ v0.2.2.2.2.1))) rfl rfl (qp (AB (decide (v0.2.2.2.1 ≠ v0.2.2.2.2.1))) rfl (qp (AB (decide (v0.2.2.2.1 ≠ v0.2.2.2.2.1))) rfl ?_))
      refine q_case 49 hF rfl (fun hF => ?_) (fun hF => ?_)
      ·
       refine qg (.val none (.ptr [.str v0.1, .sl 1 (v0.2.1.map vI), .sl 1 (v0.2.2.1.map vI), .int .i64 v0.2.2.2.1, .int .i64 v0.2.2.2.2.1, .sl 1 (v0.2.2.2.2.2.map (eL 1 vI))])) rfl rfl (qg (.val none (.ptr [.str v0.1, .sl 1 (v0.2.1.map vI), .sl 1 (v0.2.2.1.map vI), .int .i64 v0.2.2.2.1, .int .i64 v0.2.2.2.2.1, .sl 1 (v0.2.2.2.2.2.map (eL 1 vI))])) rfl rfl (qg (.val none (.ptr [.sl 1 (v0.2.2.2.2.2.map (eL 1 vI))])) rfl rfl (qg (AL 1 (v0.2.2.2.2.2.map (eL 1 vI))) rfl rfl ?_)))
       obtain ⟨v1005, e1005, hF⟩ := bind_get hF
       refine qcg (AB v1005) [] false rfl (con_spec_l05Pairs e1005) c224_ok (by first | rfl | simp) rfl ?_
       refine qp (AB v1005) rfl (qp (AB v1005) rfl ?_)
       refine r_nil ?_
       refine w_ret ?_
       cases hF
       exact eR
      ·
       refine qn rfl (qn rfl (qn rfl (qn rfl (qn rfl (qp (AB false) rfl (qp (AB false) rfl ?_))))))
       refine r_nil ?_
       refine w_ret ?_
       cases hF
       exact eR
     ·
      refine qn rfl (qn rfl (qn rfl (qn rfl (qn rfl (qn rfl (qn rfl (qn rfl ?_)))))))
      refine qn rfl (qp (AB false) rfl (qp (AB false) rfl (qn rfl (qn rfl (qn rfl (qn rfl (qn rfl ?_)))))))
      refine qp (AB false) rfl (qp (AB false) rfl ?_)
      refine r_nil ?_
      refine w_ret ?_
      cases hF
      exact eR
    ·
     refine qn rfl (qn rfl (qn rfl (qn rfl (qn rfl (qn rfl (qp (AB false) rfl (qp (AB false) rfl ?_)))))))
     refine qn rfl (qn rfl (qn rfl (qn rfl (qn rfl (qn rfl (qn rfl (qn rfl ?_)))))))
     refine qn rfl (qp (AB false) rfl (qp (AB false) rfl (qn rfl (qn rfl (qn rfl (qn rfl (qn rfl ?_)))))))
     refine qp (AB false) rfl (qp (AB false) rfl ?_)
     refine r_nil ?_
     refine w_ret ?_
     cases hF
     exact eR
   ·
    refine qn rfl (qn rfl (qn rfl (qn rfl (qn rfl (qn rfl (qp (AB false) rfl (qp (AB false) rfl ?_)))))))
    refine qn rfl (qn rfl (qn rfl (qn rfl (qn rfl (qn rfl (qp (AB false) rfl (qp (AB false) rfl ?_)))))))
    refine qn rfl (qn rfl (qn rfl (qn rfl (qn rfl (qn rfl (qn rfl (qn rfl ?_)))))))
    refine qn rfl (qp (AB false) rfl (qp (AB false) rfl (qn rfl (qn rfl (qn rfl (qn rfl (qn rfl ?_)))))))
    refine qp (AB false) rfl (qp (AB false) rfl ?_)
    refine r_nil ?_
    refine w_ret ?_
    cases hF
    exact eR
  ·
   refine qn rfl (qn rfl (qn rfl (qn rfl (qn rfl (qp (AB false) rfl (qp (AB false) rfl (qn rfl ?_)))))))
   refine qn rfl (qn rfl (qn rfl (qn rfl (qn rfl (qp (AB false) rfl (qp (AB false) rfl (qn rfl ?_)))))))
   refine qn rfl (qn rfl (qn rfl (qn rfl (qn rfl (qp (AB false) rfl (qp (AB false) rfl (qn rfl ?_)))))))
   refine qn rfl (qn rfl (qn rfl (qn rfl (qn rfl (qn rfl (qn rfl (qn rfl ?_)))))))
   refine qp (AB false) rfl (qp (AB false) rfl (qn rfl (qn rfl (qn rfl (qn rfl (qn rfl (qp (AB false) rfl ?_)))))))
   refine qp (AB false) rfl ?_
   refine r_nil ?_
   refine w_ret ?_
   cases hF
   exact eR
 ·
  refine qn rfl (qn rfl (qn rfl (qn rfl (qn rfl (qp (AB false) rfl (qp (AB false) rfl (qn rfl ?_)))))))
  refine qn rfl (qn rfl (qn rfl (qn rfl (qp (AB false) rfl (qp (AB false) rfl (qn rfl (qn rfl ?_)))))))
  refine qn rfl (qn rfl (qn rfl (qn rfl (qp (AB false) rfl (qp (AB false) rfl (qn rfl (qn rfl ?_)))))))
  refine qn rfl (qn rfl (qn rfl (qn rfl (qp (AB false) rfl (qp (AB false) rfl (qn rfl (qn rfl ?_)))))))
  refine qn rfl (qn rfl (qn rfl (qn rfl (qn rfl (qn rfl (qn rfl (qp (AB false) rfl ?_)))))))
  refine qp (AB false) rfl (qn rfl (qn rfl (qn rfl (qn rfl (qn rfl (qp (AB false) rfl (qp (AB false) rfl ?_)))))))
  refine r_nil ?_
  refine w_ret ?_
  cases hF
  exact eR

def c142 : MC := (.seq (.reg [rg 2 (.p true (.mv (.c (.bool false))))]) (.seq (.reg [mvt 3 0, rg 4 (.call true 93 [(.t 3), (.c (.int .i64 (-12))), (.c (.int .i64 23))]), mvt 2 4]) .ret))
theorem c142_is : compFn Try.prog 142 = some (c142, [(.tmp 2)]) := by kernel_rfl
theorem c142_ok : okFn Try.prog 142 = true := by kernel_rfl

noncomputable def F_spec_l03Pitch (v0 : Int) : Option (Bool) :=
 ((F_spec_l00In v0 (-12) 23).bind fun v1000 => some v1000)
@[simp] def res_spec_l03Pitch (r : Bool) : RV := .one (.one (.val (.bool r)))
theorem con_spec_l03Pitch {v0 : Int} {r : Bool} (hF : F_spec_l03Pitch v0 = some r) : Con Try.prog 142 [.int .i64 v0] (res_spec_l03Pitch r) := by
 unfold F_spec_l03Pitch at hF
 refine con_of c142_is fun N => ?_
 refine ws 0 64 ?_
 refine qp (AB false) rfl ?_
 refine r_nil ?_
 refine ws 64 256 ?_
 refine qp (AI v0) rfl ?_
 obtain ⟨v1000, e1000, hF⟩ := bind_get hF
 refine qc (AB v1000) [] false (con_spec_l00In e1000) c93_ok (by first | rfl | simp) rfl ?_
 refine qp (AB v1000) rfl ?_
 refine r_nil ?_
 refine w_ret ?_
 cases hF
 exact eR

def c225 : MC := (.seq (.reg [rg 2 (.p true (.mv (.c (.bool false))))]) (.seq (.reg [mvt 3 0, rg 4 (.call true 93 [(.t 3), (.c (.int .i64 1)), (.c (.int .i64 64))]), mvt 2 4]) .ret))
theorem c225_is : compFn Try.prog 225 = some (c225, [(.tmp 2)]) := by kernel_rfl
theorem c225_ok : okFn Try.prog 225 = true := by kernel_rfl

noncomputable def F_spec_l09Length (v0 : Int) : Option (Bool) :=
 ((F_spec_l00In v0 1 64).bind fun v1000 => some v1000)
@[simp] def res_spec_l09Length (r : Bool) : RV := .one (.one (.val (.bool r)))
theorem con_spec_l09Length {v0 : Int} {r : Bool} (hF : F_spec_l09Length v0 = some r) : Con Try.prog 225 [.int .i64 v0] (res_spec_l09Length r) := by
 unfold F_spec_l09Length at hF
 refine con_of c225_is fun N => ?_
 refine ws 0 64 ?_
 refine qp (AB false) rfl ?_
 refine r_nil ?_
 refine ws 64 256 ?_
 refine qp (AI v0) rfl ?_
 obtain ⟨v1000, e1000, hF⟩ := bind_get hF
 refine qc (AB v1000) [] false (con_spec_l00In e1000) c93_ok (by first | rfl | simp) rfl ?_
 refine qp (AB v1000) rfl ?_
 refine r_nil ?_
 refine w_ret ?_
 cases hF
 exact eR

def c143 : MC := (.seq (.reg [rg 2 (.p true (.mv (.c (.bool false))))]) (.seq (.seq (.reg [rg 3 (.p true (.mv (.c (.int .i64 0))))]) (.block 0 (.loop (.seq (.seq (.reg [mvt 4 3, mvt 5 0, rg 6 (.p true (.len (.t 5))), rg 7 (.p true (.bin .lss (.t 4) (.t 6)))]) (.cond (.t 7) .skip (.exit 0))) (.seq (.block 1 (.seq (.reg [mvt 10 0, mvt 11 3, rg 12 (.p true (.iad (.t 10) (.t 11) 2)), rg 13 (.p true (.fad (.t 12) 0)), rg 14 (.p true (.ld (.t 13) 1 false)), rg 15 (.call true 142 [(.t 14)]), rg 16 (.p true (.not (.t 15))), mvt 17 16, ⟨(some 18), (some (17, false)), (.p true (.mv (.t 0)))⟩, ⟨(some 19), (some (17, false)), (.p true (.mv (.t 3)))⟩, ⟨(some 20), (some (17, false)), (.p true (.iad (.t 18) (.t 19) 2))⟩, ⟨(some 21), (some (17, false)), (.p true (.fad (.t 20) 1))⟩, ⟨(some 22), (some (17, false)), (.p true (.ld (.t 21) 1 false))⟩, ⟨(some 23), (some (17, false)), (.call true 225 [(.t 22)])⟩, ⟨(some 24), (some (17, false)), (.p true (.not (.t 23)))⟩, rg 25 (.p true (.pick (.t 17) (.c (.bool true)) (.t 24)))]) (.cond (.t 25) (.seq (.reg [rg 2 (.p true (.mv (.c (.bool false))))]) .ret) .skip))) (.reg [mvt 8 3, rg 9 (.p true (.bin .add (.t 8) (.c (.int .i64 1)))), mvt 3 9])))))) (.seq (.reg [mvt 26 0, rg 27 (.p true (.len (.t 26))), rg 28 (.p true (.bin .leq (.t 27) (.c (.int .i64 48)))), mvt 2 28]) .ret)))
theorem c143_is : compFn Try.prog 143 = some (c143, [(.tmp 2)]) := by kernel_rfl
theorem c143_ok : okFn Try.prog 143 = true := by kernel_rfl

noncomputable def F_spec_l09Ok_l0 (v0 : List TNote) (k0 : Int → Option (Bool)) : Int → Option (Bool)
 | v10 => (bif (decide (v10 < (v0.length : Int))) then ((ix v0 v10).bind fun v1000 => ((F_spec_l03Pitch v1000.1).bind fun v1001 => (bif (!v1001) then some false
 else ((ix v0 v10).bind fun v1002 => ((F_spec_l09Length v1002.2).bind fun v1003 => (bif (!v1003) then some false
 else k0 (w64 (v10 + 1))))))))
 else some (decide ((v0.length : Int) ≤ (48 : Int))))
noncomputable def F_spec_l09Ok (v0 : List TNote) : Option (Bool) :=
 loop (F_spec_l09Ok_l0 v0) 0
@[simp] def res_spec_l09Ok (r : Bool) : RV := .one (.one (.val (.bool r)))
theorem con_spec_l09Ok {v0 : List TNote} {r : Bool} (hF : F_spec_l09Ok v0 = some r) : Con Try.prog 143 [.sl 2 (v0.map eNote)] (res_spec_l09Ok r) := by
 unfold F_spec_l09Ok at hF
 refine con_of c143_is fun N => ?_
 refine ws 0 64 ?_
 refine qp (AB false) rfl ?_
 refine r_nil ?_
 refine w_seq ?_
 refine ws 64 128 ?_
 refine qp (AI 0) rfl ?_
 refine r_nil ?_
 refine w_block ?_
 refine wr (l' := [(0, AL 2 (v0.map eNote)), (3, AI 0)]) (L := []) [0, 3] [] 1 ?_
 refine w_loopF (F_spec_l09Ok_l0 v0) (fun s : Int => mkS [(0, AL 2 (v0.map eNote)), (3, AI s)] (fo []) 1) hF ?_
 rintro k0 v10 hF
 rw [F_spec_l09Ok_l0] at hF
 try dsimp only
 refine w_seq ?_
 refine ws 1 257 ?_
 refine qp (AI v10) rfl (qp (AL 2 (v0.map eNote)) rfl (qp (AI (v0.length : Int)) (ev_len_n rfl) (qp (AB (decide (v10 < (v0.length : Int)))) rfl ?_)))
 refine r_nil ?_
 refine cF hF (fun hF => ?_) fun hF => ?_
 ·
  refine w_skip ?_
  refine thenQ_n ?_
  refine w_seq ?_
  refine w_block ?_
  refine ws 257 1281 ?_
  refine qp (AL 2 (v0.map eNote)) rfl (qp (AI v10) rfl ?_)
  obtain ⟨v1000, e1000, hF⟩ := bind_get hF
  refine qp (.val none (.ptr [.int .i64 v1000.1, .int .i64 v1000.2])) (ev_iad_n rfl rfl e1000 rfl) (qp (.val none (.ptr [.int .i64 v1000.1, .int .i64 v1000.2])) rfl (qp (AI v1000.1) rfl ?_))
  obtain ⟨v1001, e1001, hF⟩ := bind_get hF
  refine qc (AB v1001) [] false (con_spec_l03Pitch e1001) c142_ok (by first | rfl | simp) rfl ?_
  refine qp (AB (!v1001)) rfl (qp (AB (!v1001)) rfl ?_)
  refine q_case 17 hF rfl (fun hF => ?_) (fun hF => ?_)
  ·
   refine qn rfl (qn rfl (qn rfl (qn rfl (qn rfl (qn rfl (qn rfl (qp (AB true) rfl ?_)))))))
   refine r_nil ?_
   refine w_true rfl ?_
   refine ws 1281 1345 ?_
   refine qp (AB false) rfl ?_
   refine r_nil ?_
   refine w_ret ?_
   refine blockQ_r ?_
   refine thenQ_r ?_
   refine thenQ_r ?_
   refine blockQ_r ?_
   refine thenQ_r ?_
   cases hF
   exact eR
  ·
   refine qg (AL 2 (v0.map eNote)) rfl rfl (qg (AI v10) rfl rfl ?_)
   obtain ⟨v1002, e1002, hF⟩ := bind_get hF
   refine qg (.val none (.ptr [.int .i64 v1002.1, .int .i64 v1002.2])) rfl (ev_iad_n rfl rfl e1002 rfl) (qg (.val none (.ptr [.int .i64 v1002.2])) rfl rfl (qg (AI v1002.2) rfl rfl ?_))
   obtain ⟨v1003, e1003, hF⟩ := bind_get hF
   refine qcg (AB v1003) [] false rfl (con_spec_l09Length e1003) c225_ok (by first | rfl | simp) rfl ?_
   refine qg (AB (!v1003)) rfl rfl (qp (AB (!v1003)) rfl ?_)
   refine r_nil ?_
   refine cF hF (fun hF => ?_) fun hF => ?_
   ·
    refine ws 1281 1345 ?_
    refine qp (AB false) rfl ?_
    refine r_nil ?_
    refine w_ret ?_
    refine blockQ_r ?_
    refine thenQ_r ?_
    refine thenQ_r ?_
    refine blockQ_r ?_
    refine thenQ_r ?_
    cases hF
    exact eR
   ·
    refine w_skip ?_
    refine blockQ_n ?_
    refine thenQ_n ?_
    refine w_reg 1281 1473 rfl rfl ?_
    refine qp (AI v10) rfl (qp (AI (w64 (v10 + 1))) rfl (qp (AI (w64 (v10 + 1))) rfl ?_))
    refine r_nil ?_
    refine thenQ_n ?_
    refine ar (l' := [(0, AL 2 (v0.map eNote)), (3, AI (w64 (v10 + 1)))]) (L := []) [0, 3] [] 1 ⟨_, by rfl, hF⟩
 ·
  refine w_exit ?_
  refine thenQ_e ?_
  refine thenQ_e ?_
  refine blockQ_e ?_
  refine thenQ_n ?_
  refine ws 257 513 ?_
  refine qp (AL 2 (v0.map eNote)) rfl (qp (AI (v0.length : Int)) (ev_len_n rfl) (qp (AB (decide ((v0.length : Int) ≤ (48 : Int)))) rfl (qp (AB (decide ((v0.length : Int) ≤ (48 : Int)))) rfl ?_)))
  refine r_nil ?_
  refine w_ret ?_
  cases hF
  exact eR

def c226 : MC := (.seq (.reg [rg 2 (.p true (.mv (.c (.bool false))))]) (.seq (.reg [mvt 3 0, rg 4 (.p true (.nck (.t 3))), rg 5 (.p true (.fad (.t 4) 0)), rg 6 (.p true (.ld (.t 5) 1 false)), rg 7 (.call true 94 [(.t 6)]), mvt 8 7, ⟨(some 9), (some (8, true)), (.p true (.mv (.t 0)))⟩, ⟨(some 10), (some (8, true)), (.p true (.nck (.t 9)))⟩, ⟨(some 11), (some (8, true)), (.p true (.fad (.t 10) 1))⟩, ⟨(some 12), (some (8, true)), (.p true (.ld (.t 11) 1 false))⟩, ⟨(some 13), (some (8, true)), (.call true 93 [(.t 12), (.c (.int .i64 0)), (.c (.int .i64 10000))])⟩, rg 14 (.p true (.pick (.t 8) (.t 13) (.c (.bool false)))), mvt 15 14, ⟨(some 16), (some (15, true)), (.p true (.mv (.t 0)))⟩, ⟨(some 17), (some (15, true)), (.p true (.nck (.t 16)))⟩, ⟨(some 18), (some (15, true)), (.p true (.fad (.t 17) 2))⟩, ⟨(some 19), (some (15, true)), (.p true (.ld (.t 18) 1 false))⟩, ⟨(some 20), (some (15, true)), (.call true 93 [(.t 19), (.c (.int .i64 1)), (.c (.int .i64 10000))])⟩, rg 21 (.p true (.pick (.t 15) (.t 20) (.c (.bool false)))), mvt 2 21]) .ret))
theorem c226_is : compFn Try.prog 226 = some (c226, [(.tmp 2)]) := by kernel_rfl
theorem c226_ok : okFn Try.prog 226 = true := by kernel_rfl

noncomputable def F_spec_l23One (v0 : TTurn) : Option (Bool) :=
 ((F_spec_l01Name v0.1).bind fun v1000 => (bif v1000 then ((F_spec_l00In v0.2.1 0 10000).bind fun v1001 => (bif v1001 then ((F_spec_l00In v0.2.2 1 10000).bind fun v1002 => some v1002)
 else some false))
 else some false))
@[simp] def res_spec_l23One (r : Bool) : RV := .one (.one (.val (.bool r)))
theorem con_spec_l23One {v0 : TTurn} {r : Bool} (hF : F_spec_l23One v0 = some r) : Con Try.prog 226 [.ptr [.str v0.1, .int .i64 v0.2.1, .int .i64 v0.2.2]] (res_spec_l23One r) := by
 unfold F_spec_l23One at hF
 refine con_of c226_is fun N => ?_
 refine ws 0 64 ?_
 refine qp (AB false) rfl ?_
 refine r_nil ?_
 refine ws 64 1344 ?_
 refine qp (.val none (.ptr [.str v0.1, .int .i64 v0.2.1, .int .i64 v0.2.2])) rfl (qp (.val none (.ptr [.str v0.1, .int .i64 v0.2.1, .int .i64 v0.2.2])) rfl (qp (.val none (.ptr [.str v0.1, .int .i64 v0.2.1, .int .i64 v0.2.2])) rfl (qp (AS v0.1) rfl ?_)))
 obtain ⟨v1000, e1000, hF⟩ := bind_get hF
 refine qc (AB v1000) [] false (con_spec_l01Name e1000) c94_ok (by first | rfl | simp) rfl ?_
 refine qp (AB v1000) rfl ?_
 refine q_case 8 hF rfl (fun hF => ?_) (fun hF => ?_)
 ·
  refine qg (.val none (.ptr [.str v0.1, .int .i64 v0.2.1, .int .i64 v0.2.2])) rfl rfl (qg (.val none (.ptr [.str v0.1, .int .i64 v0.2.1, .int .i64 v0.2.2])) rfl rfl (qg (.val none (.ptr [.int .i64 v0.2.1, .int .i64 v0.2.2])) rfl rfl (qg (AI v0.2.1) rfl rfl ?_)))
  obtain ⟨v1001, e1001, hF⟩ := bind_get hF
  refine qcg (AB v1001) [] false rfl (con_spec_l00In e1001) c93_ok (by first | rfl | simp) rfl ?_
  refine qp (AB v1001) rfl (qp (AB v1001) rfl ?_)
  refine q_case 15 hF rfl (fun hF => ?_) (fun hF => ?_)
  ·
   refine qg (.val none (.ptr [.str v0.1, .int .i64 v0.2.1, .int .i64 v0.2.2])) rfl rfl (qg (.val none (.ptr [.str v0.1, .int .i64 v0.2.1, .int .i64 v0.2.2])) rfl rfl (qg (.val none (.ptr [.int .i64 v0.2.2])) rfl rfl (qg (AI v0.2.2) rfl rfl ?_)))
   obtain ⟨v1002, e1002, hF⟩ := bind_get hF
   refine qcg (AB v1002) [] false rfl (con_spec_l00In e1002) c93_ok (by first | rfl | simp) rfl ?_
   refine qp (AB v1002) rfl (qp (AB v1002) rfl ?_)
   refine r_nil ?_
   refine w_ret ?_
   cases hF
   exact eR
  ·
   refine qn rfl (qn rfl (qn rfl (qn rfl (qn rfl (qp (AB false) rfl (qp (AB false) rfl ?_))))))
   refine r_nil ?_
   refine w_ret ?_
   cases hF
   exact eR
 ·
  refine qn rfl (qn rfl (qn rfl (qn rfl (qn rfl (qp (AB false) rfl (qp (AB false) rfl (qn rfl ?_)))))))
  refine qn rfl (qn rfl (qn rfl (qn rfl (qp (AB false) rfl (qp (AB false) rfl ?_)))))
  refine r_nil ?_
  refine w_ret ?_
  cases hF
  exact eR

def c227 : MC := (.seq (.reg [rg 4 (.p true (.mv (.c (.bool false))))]) (.seq (.seq (.reg [rg 5 (.p false (.mv (.t 0))), rg 6 (.p false (.nck (.t 5))), rg 7 (.p false (.fad (.t 6) 1)), rg 8 (.p false (.ld (.t 7) 1 false)), rg 9 (.p false (.mv (.t 1))), rg 10 (.p false (.nck (.t 9))), rg 11 (.p false (.fad (.t 10) 1)), rg 12 (.p false (.ld (.t 11) 1 false)), rg 13 (.p false (.bin .neq (.t 8) (.t 12)))]) (.cond (.t 13) (.seq (.reg [rg 14 (.p false (.mv (.t 0))), rg 15 (.p false (.nck (.t 14))), rg 16 (.p false (.fad (.t 15) 1)), rg 17 (.p false (.ld (.t 16) 1 false)), rg 18 (.p false (.mv (.t 1))), rg 19 (.p false (.nck (.t 18))), rg 20 (.p false (.fad (.t 19) 1)), rg 21 (.p false (.ld (.t 20) 1 false)), rg 22 (.p false (.bin .lss (.t 17) (.t 21))), rg 4 (.p false (.mv (.t 22)))]) .ret) .skip)) (.seq (.seq (.reg [rg 23 (.p false (.mv (.t 0))), rg 24 (.p false (.nck (.t 23))), rg 25 (.p false (.fad (.t 24) 0)), rg 26 (.p false (.ld (.t 25) 1 false)), rg 27 (.p false (.mv (.t 1))), rg 28 (.p false (.nck (.t 27))), rg 29 (.p false (.fad (.t 28) 0)), rg 30 (.p false (.ld (.t 29) 1 false)), rg 31 (.p false (.bin .neq (.t 26) (.t 30)))]) (.cond (.t 31) (.seq (.reg [rg 32 (.p false (.mv (.t 0))), rg 33 (.p false (.nck (.t 32))), rg 34 (.p false (.fad (.t 33) 0)), rg 35 (.p false (.ld (.t 34) 1 false)), rg 36 (.p false (.mv (.t 1))), rg 37 (.p false (.nck (.t 36))), rg 38 (.p false (.fad (.t 37) 0)), rg 39 (.p false (.ld (.t 38) 1 false)), rg 40 (.p false (.bin .lss (.t 35) (.t 39))), rg 4 (.p false (.mv (.t 40)))]) .ret) .skip)) (.seq (.reg [rg 41 (.p false (.mv (.t 0))), rg 42 (.p false (.nck (.t 41))), rg 43 (.p false (.fad (.t 42) 2)), rg 44 (.p false (.ld (.t 43) 1 false)), rg 45 (.p false (.mv (.t 1))), rg 46 (.p false (.nck (.t 45))), rg 47 (.p false (.fad (.t 46) 2)), rg 48 (.p false (.ld (.t 47) 1 false)), rg 49 (.p false (.bin .lss (.t 44) (.t 48))), rg 4 (.p false (.mv (.t 49)))]) .ret))))
theorem c227_is : compFn Try.prog 227 = some (c227, [(.tmp 4)]) := by kernel_rfl
theorem c227_ok : okFn Try.prog 227 = true := by kernel_rfl

noncomputable def F_spec_l23Before (v0 : TTurn) (v1 : TTurn) : Option (Bool) :=
 (bif (decide (v0.2.1 ≠ v1.2.1)) then some (decide (v0.2.1 < v1.2.1))
 else (bif (decide (v0.1 ≠ v1.1)) then some (Op.bytesLess v0.1 v1.1)
 else some (decide (v0.2.2 < v1.2.2))))
@[simp] def res_spec_l23Before (r : Bool) : RV := .one (.one (.val (.bool r)))
theorem con_spec_l23Before {v0 : TTurn} {v1 : TTurn} {r : Bool} (hF : F_spec_l23Before v0 v1 = some r) : Con Try.prog 227 [.ptr [.str v0.1, .int .i64 v0.2.1, .int .i64 v0.2.2], .ptr [.str v1.1, .int .i64 v1.2.1, .int .i64 v1.2.2]] (res_spec_l23Before r) := by
 unfold F_spec_l23Before at hF
 refine con_of c227_is fun N => ?_
 refine ws 0 64 ?_
 refine qp (AB false) rfl ?_
 refine r_nil ?_
 refine w_seq ?_
 refine ws 64 640 ?_
 refine qp (.val none (.ptr [.str v0.1, .int .i64 v0.2.1, .int .i64 v0.2.2])) rfl (qp (.val none (.ptr [.str v0.1, .int .i64 v0.2.1, .int .i64 v0.2.2])) rfl (qp (.val none (.ptr [.int .i64 v0.2.1, .int .i64 v0.2.2])) rfl (qp (AI v0.2.1) rfl (qp (.val none (.ptr [.str v1.1, .int .i64 v1.2.1, .int .i64 v1.2.2])) rfl (qp (.val none (.ptr [.str v1.1, .int .i64 v1.2.1, .int .i64 v1.2.2])) rfl (qp (.val none (.ptr [.int .i64 v1.2.1, .int .i64 v1.2.2])) rfl (qp (AI v1.2.1) rfl ?_)))))))
 refine qp (AB (decide (v0.2.1 ≠ v1.2.1))) rfl ?_
 refine r_nil ?_
 refine cF hF (fun hF => ?_) fun hF => ?_
 ·
  refine ws 640 1280 ?_
  refine qp (.val none (.ptr [.str v0.1, .int .i64 v0.2.1, .int .i64 v0.2.2])) rfl (qp (.val none (.ptr [.str v0.1, .int .i64 v0.2.1, .int .i64 v0.2.2])) rfl (qp (.val none (.ptr [.int .i64 v0.2.1, .int .i64 v0.2.2])) rfl (qp (AI v0.2.1) rfl (qp (.val none (.ptr [.str v1.1, .int .i64 v1.2.1, .int .i64 v1.2.2])) rfl (qp (.val none (.ptr [.str v1.1, .int .i64 v1.2.1, .int .i64 v1.2.2])) rfl (qp (.val none (.ptr [.int .i64 v1.2.1, .int .i64 v1.2.2])) rfl (qp (AI v1.2.1) rfl ?_)))))))
  refine qp (AB (decide (v0.2.1 < v1.2.1))) rfl (qp (AB (decide (v0.2.1 < v1.2.1))) rfl ?_)
  refine r_nil ?_
  refine w_ret ?_
  refine thenQ_r ?_
  cases hF
  exact eR
 ·
  refine w_skip ?_
  refine thenQ_n ?_
  refine w_seq ?_
  refine ws 640 1216 ?_
  refine qp (.val none (.ptr [.str v0.1, .int .i64 v0.2.1, .int .i64 v0.2.2])) rfl (qp (.val none (.ptr [.str v0.1, .int .i64 v0.2.1, .int .i64 v0.2.2])) rfl (qp (.val none (.ptr [.str v0.1, .int .i64 v0.2.1, .int .i64 v0.2.2])) rfl (qp (AS v0.1) rfl (qp (.val none (.ptr [.str v1.1, .int .i64 v1.2.1, .int .i64 v1.2.2])) rfl (qp (.val none (.ptr [.str v1.1, .int .i64 v1.2.1, .int .i64 v1.2.2])) rfl (qp (.val none (.ptr [.str v1.1, .int .i64 v1.2.1, .int .i64 v1.2.2])) rfl (qp (AS v1.1) rfl ?_)))))))
  refine qp (AB (decide (v0.1 ≠ v1.1))) rfl ?_
  refine r_nil ?_
  refine cF hF (fun hF => ?_) fun hF => ?_
  ·
   refine ws 1216 1856 ?_
   refine qp (.val none (.ptr [.str v0.1, .int .i64 v0.2.1, .int .i64 v0.2.2])) rfl (qp (.val none (.ptr [.str v0.1, .int .i64 v0.2.1, .int .i64 v0.2.2])) rfl (qp (.val none (.ptr [.str v0.1, .int .i64 v0.2.1, .int .i64 v0.2.2])) rfl (qp (AS v0.1) rfl (qp (.val none (.ptr [.str v1.1, .int .i64 v1.2.1, .int .i64 v1.2.2])) rfl (qp (.val none (.ptr [.str v1.1, .int .i64 v1.2.1, .int .i64 v1.2.2])) rfl (qp (.val none (.ptr [.str v1.1, .int .i64 v1.2.1, .int .i64 v1.2.2])) rfl (qp (AS v1.1) rfl ?_)))))))
   refine qp (AB (Op.bytesLess v0.1 v1.1)) rfl (qp (AB (Op.bytesLess v0.1 v1.1)) rfl ?_)
   refine r_nil ?_
   refine w_ret ?_
   refine thenQ_r ?_
   cases hF
   exact eR
  ·
   refine w_skip ?_
   refine thenQ_n ?_
   refine ws 1216 1856 ?_
   refine qp (.val none (.ptr [.str v0.1, .int .i64 v0.2.1, .int .i64 v0.2.2])) rfl (qp (.val none (.ptr [.str v0.1, .int .i64 v0.2.1, .int .i64 v0.2.2])) rfl (qp (.val none (.ptr [.int .i64 v0.2.2])) rfl (qp (AI v0.2.2) rfl (qp (.val none (.ptr [.str v1.1, .int .i64 v1.2.1, .int .i64 v1.2.2])) rfl (qp (.val none (.ptr [.str v1.1, .int .i64 v1.2.1, .int .i64 v1.2.2])) rfl (qp (.val none (.ptr [.int .i64 v1.2.2])) rfl (qp (AI v1.2.2) rfl ?_)))))))
   refine qp (AB (decide (v0.2.2 < v1.2.2))) rfl (qp (AB (decide (v0.2.2 < v1.2.2))) rfl ?_)
   refine r_nil ?_
   refine w_ret ?_
   cases hF
   exact eR

def c144 : MC := (.seq (.reg [rg 2 (.p true (.mv (.c (.bool false))))]) (.seq (.seq (.reg [rg 3 (.p true (.mv (.c (.int .i64 0))))]) (.block 0 (.loop (.seq (.seq (.reg [mvt 4 3, mvt 5 0, rg 6 (.p true (.len (.t 5))), rg 7 (.p true (.bin .lss (.t 4) (.t 6)))]) (.cond (.t 7) .skip (.exit 0))) (.seq (.block 1 (.seq (.reg [rg 10 (.p false (.mv (.t 0))), rg 11 (.p false (.mv (.t 3))), rg 12 (.p false (.iad (.t 10) (.t 11) 3)), rg 13 (.call false 226 [(.t 12)]), rg 14 (.p false (.not (.t 13))), rg 15 (.p false (.mv (.t 14))), ⟨(some 16), (some (15, false)), (.p false (.mv (.t 3)))⟩, ⟨(some 17), (some (15, false)), (.p false (.bin .gtr (.t 16) (.c (.int .i64 0))))⟩, ⟨(some 18), (some (15, false)), (.p false (.mv (.t 17)))⟩, ⟨(some 19), (some (18, true)), (.p false (.mv (.t 0)))⟩, ⟨(some 20), (some (18, true)), (.p false (.mv (.t 3)))⟩, ⟨(some 21), (some (18, true)), (.p false (.bin .sub (.t 20) (.c (.int .i64 1))))⟩, ⟨(some 22), (some (18, true)), (.p false (.iad (.t 19) (.t 21) 3))⟩, ⟨(some 23), (some (18, true)), (.p false (.mv (.t 0)))⟩, ⟨(some 24), (some (18, true)), (.p false (.mv (.t 3)))⟩, ⟨(some 25), (some (18, true)), (.p false (.iad (.t 23) (.t 24) 3))⟩, ⟨(some 26), (some (18, true)), (.call false 227 [(.t 22), (.t 25)])⟩, ⟨(some 27), (some (18, true)), (.p false (.not (.t 26)))⟩, ⟨(some 28), (some (15, false)), (.p false (.pick (.t 18) (.t 27) (.c (.bool false))))⟩, rg 29 (.p false (.pick (.t 15) (.c (.bool true)) (.t 28)))]) (.cond (.t 29) (.seq (.reg [rg 2 (.p true (.mv (.c (.bool false))))]) .ret) .skip))) (.reg [mvt 8 3, rg 9 (.p true (.bin .add (.t 8) (.c (.int .i64 1)))), mvt 3 9])))))) (.seq (.reg [mvt 30 0, rg 31 (.p true (.len (.t 30))), rg 32 (.p true (.bin .leq (.t 31) (.c (.int .i64 24)))), mvt 2 32]) .ret)))
theorem c144_is : compFn Try.prog 144 = some (c144, [(.tmp 2)]) := by kernel_rfl
theorem c144_ok : okFn Try.prog 144 = true := by kernel_rfl

noncomputable def F_spec_l23Ok_l0 (v0 : List TTurn) (k0 : Int → Option (Bool)) : Int → Option (Bool)
 | v12 => (bif (decide (v12 < (v0.length : Int))) then ((ix v0 v12).bind fun v1000 => ((F_spec_l23One v1000).bind fun v1001 => (bif (!v1001) then some false
 else (bif (decide ((0 : Int) < v12)) then ((ix v0 (w64 (v12 - 1))).bind fun v1002 => ((ix v0 v12).bind fun v1003 => ((F_spec_l23Before v1002 v1003).bind fun v1004 => (bif (!v1004) then some false
 else k0 (w64 (v12 + 1))))))
 else k0 (w64 (v12 + 1))))))
 else some (decide ((v0.length : Int) ≤ (24 : Int))))
noncomputable def F_spec_l23Ok (v0 : List TTurn) : Option (Bool) :=
 loop (F_spec_l23Ok_l0 v0) 0
@[simp] def res_spec_l23Ok (r : Bool) : RV := .one (.one (.val (.bool r)))
theorem con_spec_l23Ok {v0 : List TTurn} {r : Bool} (hF : F_spec_l23Ok v0 = some r) : Con Try.prog 144 [.sl 3 (v0.map eTurn)] (res_spec_l23Ok r) := by
 unfold F_spec_l23Ok at hF
 refine con_of c144_is fun N => ?_
 refine ws 0 64 ?_
 refine qp (AB false) rfl ?_
 refine r_nil ?_
 refine w_seq ?_
 refine ws 64 128 ?_
 refine qp (AI 0) rfl ?_
 refine r_nil ?_
 refine w_block ?_
 refine wr (l' := [(0, AL 3 (v0.map eTurn)), (3, AI 0)]) (L := []) [0, 3] [] 1 ?_
 refine w_loopF (F_spec_l23Ok_l0 v0) (fun s : Int => mkS [(0, AL 3 (v0.map eTurn)), (3, AI s)] (fo []) 1) hF ?_
 rintro k0 v12 hF
 rw [F_spec_l23Ok_l0] at hF
 try dsimp only
 refine w_seq ?_
 refine ws 1 257 ?_
 refine qp (AI v12) rfl (qp (AL 3 (v0.map eTurn)) rfl (qp (AI (v0.length : Int)) (ev_len_n rfl) (qp (AB (decide (v12 < (v0.length : Int)))) rfl ?_)))
 refine r_nil ?_
 refine cF hF (fun hF => ?_) fun hF => ?_
 ·
  refine w_skip ?_
  refine thenQ_n ?_
  refine w_seq ?_
  refine w_block ?_
  refine ws 257 1537 ?_
  refine qp (AL 3 (v0.map eTurn)) rfl (qp (AI v12) rfl ?_)
  obtain ⟨v1000, e1000, hF⟩ := bind_get hF
  refine qp (.val none (.ptr [.str v1000.1, .int .i64 v1000.2.1, .int .i64 v1000.2.2])) (ev_iad_n rfl rfl e1000 rfl) ?_
  obtain ⟨v1001, e1001, hF⟩ := bind_get hF
  refine qc (AB v1001) [] false (con_spec_l23One e1001) c226_ok (by first | rfl | simp) rfl ?_
  refine qp (AB (!v1001)) rfl (qp (AB (!v1001)) rfl ?_)
  refine q_case 15 hF rfl (fun hF => ?_) (fun hF => ?_)
  ·
   refine qn rfl (qn rfl (qn rfl (qu rfl (qu rfl (qu rfl (qu rfl (qu rfl ?_)))))))
   refine qu rfl (qu rfl (qu rfl (qu rfl (qn rfl (qp (AB true) rfl ?_)))))
   refine r_nil ?_
   refine w_true rfl ?_
   refine ws 1537 1601 ?_
   refine qp (AB false) rfl ?_
   refine r_nil ?_
   refine w_ret ?_
   refine blockQ_r ?_
   refine thenQ_r ?_
   refine thenQ_r ?_
   refine blockQ_r ?_
   refine thenQ_r ?_
   cases hF
   exact eR
  ·
   refine qg (AI v12) rfl rfl (qg (AB (decide ((0 : Int) < v12))) rfl rfl (qg (AB (decide ((0 : Int) < v12))) rfl rfl ?_))
   refine q_case 18 hF rfl (fun hF => ?_) (fun hF => ?_)
   ·
    refine qg (AL 3 (v0.map eTurn)) rfl rfl (qg (AI v12) rfl rfl (qg (AI (w64 (v12 - 1))) rfl rfl ?_))
    obtain ⟨v1002, e1002, hF⟩ := bind_get hF
    refine qg (.val none (.ptr [.str v1002.1, .int .i64 v1002.2.1, .int .i64 v1002.2.2])) rfl (ev_iad_n rfl rfl e1002 rfl) (qg (AL 3 (v0.map eTurn)) rfl rfl (qg (AI v12) rfl rfl ?_))
    obtain ⟨v1003, e1003, hF⟩ := bind_get hF
    refine qg (.val none (.ptr [.str v1003.1, .int .i64 v1003.2.1, .int .i64 v1003.2.2])) rfl (ev_iad_n rfl rfl e1003 rfl) ?_
    obtain ⟨v1004, e1004, hF⟩ := bind_get hF
    refine qcg (AB v1004) [] false rfl (con_spec_l23Before e1004) c227_ok (by first | rfl | simp) rfl ?_
    refine qg (AB (!v1004)) rfl rfl (qg (AB (!v1004)) rfl rfl (qp (AB (!v1004)) rfl ?_))
    refine r_nil ?_
    refine cF hF (fun hF => ?_) fun hF => ?_
    ·
     refine ws 1537 1601 ?_
     refine qp (AB false) rfl ?_
     refine r_nil ?_
     refine w_ret ?_
     refine blockQ_r ?_
     refine thenQ_r ?_
     refine thenQ_r ?_
     refine blockQ_r ?_
     refine thenQ_r ?_
     cases hF
     exact eR
    ·
     refine w_skip ?_
     refine blockQ_n ?_
     refine thenQ_n ?_
     refine w_reg 1537 1729 rfl rfl ?_
     refine qp (AI v12) rfl (qp (AI (w64 (v12 + 1))) rfl (qp (AI (w64 (v12 + 1))) rfl ?_))
     refine r_nil ?_
     refine thenQ_n ?_
     refine ar (l' := [(0, AL 3 (v0.map eTurn)), (3, AI (w64 (v12 + 1)))]) (L := []) [0, 3] [] 1 ⟨_, by rfl, hF⟩
   ·
    refine qn rfl (qn rfl (qn rfl (qn rfl (qn rfl (qn rfl (qn rfl (qn rfl ?_)))))))
    refine qn rfl (qg (AB false) rfl rfl (qp (AB false) rfl ?_))
    refine r_nil ?_
    refine w_false rfl ?_
    refine w_skip ?_
    refine blockQ_n ?_
    refine thenQ_n ?_
    refine w_reg 1537 1729 rfl rfl ?_
    refine qp (AI v12) rfl (qp (AI (w64 (v12 + 1))) rfl (qp (AI (w64 (v12 + 1))) rfl ?_))
    refine r_nil ?_
    refine thenQ_n ?_
    refine ar (l' := [(0, AL 3 (v0.map eTurn)), (3, AI (w64 (v12 + 1)))]) (L := []) [0, 3] [] 1 ⟨_, by rfl, hF⟩
 ·
  refine w_exit ?_
  refine thenQ_e ?_
  refine thenQ_e ?_
  refine blockQ_e ?_
  refine thenQ_n ?_
  refine ws 257 513 ?_
  refine qp (AL 3 (v0.map eTurn)) rfl (qp (AI (v0.length : Int)) (ev_len_n rfl) (qp (AB (decide ((v0.length : Int) ≤ (24 : Int)))) rfl (qp (AB (decide ((v0.length : Int) ≤ (24 : Int)))) rfl ?_)))
  refine r_nil ?_
  refine w_ret ?_
  cases hF
  exact eR

def c228 : MC := (.seq (.reg [rg 2 (.p true (.mv (.c (.int .i64 0))))]) (.seq (.reg [mvt 3 0, rg 4 (.p true (.bin .rem (.t 3) (.c (.int .i64 12)))), rg 5 (.p true (.bin .add (.t 4) (.c (.int .i64 12)))), rg 6 (.p true (.bin .rem (.t 5) (.c (.int .i64 12)))), mvt 2 6]) .ret))
theorem c228_is : compFn Try.prog 228 = some (c228, [(.tmp 2)]) := by kernel_rfl
theorem c228_ok : okFn Try.prog 228 = true := by kernel_rfl

noncomputable def F_spec_l03Tone (v0 : Int) : Option (Int) :=
 some (Int.tmod (w64 ((Int.tmod v0 12) + 12)) 12)
@[simp] def res_spec_l03Tone (r : Int) : RV := .one (.one (.val (.int .i64 r)))
theorem con_spec_l03Tone {v0 : Int} {r : Int} (hF : F_spec_l03Tone v0 = some r) : Con Try.prog 228 [.int .i64 v0] (res_spec_l03Tone r) := by
 unfold F_spec_l03Tone at hF
 refine con_of c228_is fun N => ?_
 refine ws 0 64 ?_
 refine qp (AI 0) rfl ?_
 refine r_nil ?_
 refine ws 64 384 ?_
 refine qp (AI v0) rfl (qp (AI (Int.tmod v0 12)) (ev_rem rfl rfl (by decide)) (qp (AI (w64 ((Int.tmod v0 12) + 12))) rfl (qp (AI (Int.tmod (w64 ((Int.tmod v0 12) + 12)) 12)) (ev_rem rfl rfl (by decide)) (qp (AI (Int.tmod (w64 ((Int.tmod v0 12) + 12)) 12)) rfl ?_))))
 refine r_nil ?_
 refine w_ret ?_
 cases hF
 exact eR

def c187 : MC := (.seq (.reg [rg 4 (.p true (.mv (.c (.int .i64 0))))]) (.seq (.seq (.reg [mvt 5 0, mvt 6 1, rg 7 (.p true (.bin .gtr (.t 5) (.t 6)))]) (.cond (.t 7) (.seq (.reg [mvt 8 0, mvt 4 8]) .ret) .skip)) (.seq (.reg [mvt 9 1, mvt 4 9]) .ret)))
theorem c187_is : compFn Try.prog 187 = some (c187, [(.tmp 4)]) := by kernel_rfl
theorem c187_ok : okFn Try.prog 187 = true := by kernel_rfl

noncomputable def F_spec_l00Max (v0 : Int) (v1 : Int) : Option (Int) :=
 (bif (decide (v1 < v0)) then some v0
 else some v1)
@[simp] def res_spec_l00Max (r : Int) : RV := .one (.one (.val (.int .i64 r)))
theorem con_spec_l00Max {v0 : Int} {v1 : Int} {r : Int} (hF : F_spec_l00Max v0 v1 = some r) : Con Try.prog 187 [.int .i64 v0, .int .i64 v1] (res_spec_l00Max r) := by
 unfold F_spec_l00Max at hF
 refine con_of c187_is fun N => ?_
 refine ws 0 64 ?_
 refine qp (AI 0) rfl ?_
 refine r_nil ?_
 refine w_seq ?_
 refine ws 64 256 ?_
 refine qp (AI v0) rfl (qp (AI v1) rfl (qp (AB (decide (v1 < v0))) rfl ?_))
 refine r_nil ?_
 refine cF hF (fun hF => ?_) fun hF => ?_
 ·
  refine ws 256 384 ?_
  refine qp (AI v0) rfl (qp (AI v0) rfl ?_)
  refine r_nil ?_
  refine w_ret ?_
  refine thenQ_r ?_
  cases hF
  exact eR
 ·
  refine w_skip ?_
  refine thenQ_n ?_
  refine ws 256 384 ?_
  refine qp (AI v1) rfl (qp (AI v1) rfl ?_)
  refine r_nil ?_
  refine w_ret ?_
  cases hF
  exact eR

def c229 : MC := (.seq (.reg [rg 6 (.p true (.mv (.c (.int .i64 0))))]) (.seq (.reg [mvt 10 1, rg 11 (.call true 228 [(.t 10)]), mvt 7 11]) (.seq (.reg [mvt 12 2, rg 13 (.call true 228 [(.t 12)]), mvt 8 13]) (.seq (.seq (.reg [mvt 14 0, mvt 15 7, rg 16 (.call true 223 [(.t 14), (.t 15)]), rg 17 (.p true (.not (.t 16))), mvt 18 17, ⟨(some 19), (some (18, false)), (.p true (.mv (.t 0)))⟩, ⟨(some 20), (some (18, false)), (.p true (.mv (.t 8)))⟩, ⟨(some 21), (some (18, false)), (.call true 223 [(.t 19), (.t 20)])⟩, ⟨(some 22), (some (18, false)), (.p true (.not (.t 21)))⟩, rg 23 (.p true (.pick (.t 18) (.c (.bool true)) (.t 22)))]) (.cond (.t 23) (.seq (.reg [rg 6 (.p true (.mv (.c (.int .i64 1))))]) .ret) .skip)) (.seq (.seq (.reg [mvt 24 1, mvt 25 2, rg 26 (.p true (.bin .sub (.t 24) (.t 25))), mvt 27 2, mvt 28 1, rg 29 (.p true (.bin .sub (.t 27) (.t 28))), rg 30 (.call true 187 [(.t 26), (.t 29)]), rg 31 (.p true (.bin .gtr (.t 30) (.c (.int .i64 12))))]) (.cond (.t 31) (.seq (.reg [rg 6 (.p true (.mv (.c (.int .i64 2))))]) .ret) .skip)) (.seq (.seq (.reg [mvt 32 2, mvt 33 1, rg 34 (.p true (.bin .gtr (.t 32) (.t 33))), mvt 35 34, ⟨(some 36), (some (35, true)), (.p true (.mv (.t 0)))⟩, ⟨(some 37), (some (35, true)), (.p true (.nck (.t 36)))⟩, ⟨(some 38), (some (35, true)), (.p true (.fad (.t 37) 1))⟩, ⟨(some 39), (some (35, true)), (.p true (.ld (.t 38) 1 false))⟩, ⟨(some 40), (some (35, true)), (.p true (.mv (.t 8)))⟩, ⟨(some 41), (some (35, true)), (.call true 207 [(.t 39), (.t 40)])⟩, ⟨(some 42), (some (35, true)), (.p true (.not (.t 41)))⟩, rg 43 (.p true (.pick (.t 35) (.t 42) (.c (.bool false))))]) (.cond (.t 43) (.seq (.reg [rg 6 (.p true (.mv (.c (.int .i64 3))))]) .ret) .skip)) (.seq (.seq (.reg [mvt 44 2, mvt 45 1, rg 46 (.p true (.bin .lss (.t 44) (.t 45))), mvt 47 46, ⟨(some 48), (some (47, true)), (.p true (.mv (.t 0)))⟩, ⟨(some 49), (some (47, true)), (.p true (.nck (.t 48)))⟩, ⟨(some 50), (some (47, true)), (.p true (.fad (.t 49) 2))⟩, ⟨(some 51), (some (47, true)), (.p true (.ld (.t 50) 1 false))⟩, ⟨(some 52), (some (47, true)), (.p true (.mv (.t 8)))⟩, ⟨(some 53), (some (47, true)), (.call true 207 [(.t 51), (.t 52)])⟩, ⟨(some 54), (some (47, true)), (.p true (.not (.t 53)))⟩, rg 55 (.p true (.pick (.t 47) (.t 54) (.c (.bool false))))]) (.cond (.t 55) (.seq (.reg [rg 6 (.p true (.mv (.c (.int .i64 4))))]) .ret) .skip)) (.seq (.seq (.reg [rg 9 (.p true (.mv (.c (.int .i64 0))))]) (.block 0 (.loop (.seq (.seq (.reg [mvt 56 9, mvt 57 0, rg 58 (.p true (.nck (.t 57))), rg 59 (.p true (.fad (.t 58) 5)), rg 60 (.p true (.ld (.t 59) 1 false)), rg 61 (.p true (.len (.t 60))), rg 62 (.p true (.bin .lss (.t 56) (.t 61)))]) (.cond (.t 62) .skip (.exit 0))) (.seq (.block 1 (.seq (.reg [mvt 65 0, rg 66 (.p true (.nck (.t 65))), rg 67 (.p true (.fad (.t 66) 5)), rg 68 (.p true (.ld (.t 67) 1 false)), mvt 69 9, rg 70 (.p true (.iad (.t 68) (.t 69) 1)), rg 71 (.p true (.ld (.t 70) 1 false)), rg 72 (.p true (.iad (.t 71) (.c (.int .i64 0)) 1)), rg 73 (.p true (.ld (.t 72) 1 false)), mvt 74 7, rg 75 (.p true (.bin .eql (.t 73) (.t 74))), mvt 76 75, ⟨(some 77), (some (76, true)), (.p true (.mv (.t 0)))⟩, ⟨(some 78), (some (76, true)), (.p true (.nck (.t 77)))⟩, ⟨(some 79), (some (76, true)), (.p true (.fad (.t 78) 5))⟩, ⟨(some 80), (some (76, true)), (.p true (.ld (.t 79) 1 false))⟩, ⟨(some 81), (some (76, true)), (.p true (.mv (.t 9)))⟩, ⟨(some 82), (some (76, true)), (.p true (.iad (.t 80) (.t 81) 1))⟩, ⟨(some 83), (some (76, true)), (.p true (.ld (.t 82) 1 false))⟩, ⟨(some 84), (some (76, true)), (.p true (.iad (.t 83) (.c (.int .i64 1)) 1))⟩, ⟨(some 85), (some (76, true)), (.p true (.ld (.t 84) 1 false))⟩, ⟨(some 86), (some (76, true)), (.p true (.mv (.t 8)))⟩, ⟨(some 87), (some (76, true)), (.p true (.bin .eql (.t 85) (.t 86)))⟩, rg 88 (.p true (.pick (.t 76) (.t 87) (.c (.bool false))))]) (.cond (.t 88) (.seq (.reg [rg 6 (.p true (.mv (.c (.int .i64 5))))]) .ret) .skip))) (.reg [mvt 63 9, rg 64 (.p true (.bin .add (.t 63) (.c (.int .i64 1)))), mvt 9 64])))))) (.seq (.reg [rg 6 (.p true (.mv (.c (.int .i64 0))))]) .ret)))))))))
theorem c229_is : compFn Try.prog 229 = some (c229, [(.tmp 6)]) := by kernel_rfl
theorem c229_ok : okFn Try.prog 229 = true := by kernel_rfl

noncomputable def F_spec_l05Reason_l2 (v0 : TRaga) (v1000 : Int) (v1001 : Int) (k1 : Int → Option (Int)) : Int → Option (Int)
 | v1018 => (bif (decide (v1018 < (v0.2.2.2.2.2.length : Int))) then ((ix v0.2.2.2.2.2 v1018).bind fun v1010 => ((ix v1010 0).bind fun v1011 => (bif (decide (v1011 = v1000)) then ((ix v0.2.2.2.2.2 v1018).bind fun v1012 => ((ix v1012 1).bind fun v1013 => (bif (decide (v1013 = v1001)) then some 5
 else k1 (w64 (v1018 + 1)))))
 else k1 (w64 (v1018 + 1)))))
 else some 0)
noncomputable def F_spec_l05Reason_j1 (v0 : TRaga) (v1000 : Int) (v1001 : Int) : Option (Int) :=
 loop (F_spec_l05Reason_l2 v0 v1000 v1001) 0
noncomputable def F_spec_l05Reason_j0 (v0 : TRaga) (v1 : Int) (v2 : Int) (v1000 : Int) (v1001 : Int) : Option (Int) :=
 (bif (decide (v2 < v1)) then ((F_spec_l00Has v0.2.2.1 v1001).bind fun v1009 => (bif (!v1009) then some 4
 else F_spec_l05Reason_j1 v0 v1000 v1001))
 else F_spec_l05Reason_j1 v0 v1000 v1001)
noncomputable def F_spec_l05Reason (v0 : TRaga) (v1 : Int) (v2 : Int) : Option (Int) :=
 ((F_spec_l03Tone v1).bind fun v1000 => ((F_spec_l03Tone v2).bind fun v1001 => ((F_spec_l05Tone v0 v1000).bind fun v1004 => (bif (!v1004) then some 1
 else ((F_spec_l05Tone v0 v1001).bind fun v1005 => (bif (!v1005) then some 1
 else ((F_spec_l00Max (w64 (v1 - v2)) (w64 (v2 - v1))).bind fun v1006 => (bif (decide ((12 : Int) < v1006)) then some 2
 else (bif (decide (v1 < v2)) then ((F_spec_l00Has v0.2.1 v1001).bind fun v1008 => (bif (!v1008) then some 3
 else F_spec_l05Reason_j0 v0 v1 v2 v1000 v1001))
 else F_spec_l05Reason_j0 v0 v1 v2 v1000 v1001)))))))))
@[simp] def res_spec_l05Reason (r : Int) : RV := .one (.one (.val (.int .i64 r)))
theorem con_spec_l05Reason {v0 : TRaga} {v1 : Int} {v2 : Int} {r : Int} (hF : F_spec_l05Reason v0 v1 v2 = some r) : Con Try.prog 229 [.ptr [.str v0.1, .sl 1 (v0.2.1.map vI), .sl 1 (v0.2.2.1.map vI), .int .i64 v0.2.2.2.1, .int .i64 v0.2.2.2.2.1, .sl 1 (v0.2.2.2.2.2.map (eL 1 vI))], .int .i64 v1, .int .i64 v2] (res_spec_l05Reason r) := by
 unfold F_spec_l05Reason at hF
 refine con_of c229_is fun N => ?_
 refine ws 0 64 ?_
 refine qp (AI 0) rfl ?_
 refine r_nil ?_
 refine ws 64 256 ?_
 refine qp (AI v1) rfl ?_
 obtain ⟨v1000, e1000, hF⟩ := bind_get hF
 refine qc (AI v1000) [] false (con_spec_l03Tone e1000) c228_ok (by first | rfl | simp) rfl ?_
 refine qp (AI v1000) rfl ?_
 refine r_nil ?_
 refine ws 256 448 ?_
 refine qp (AI v2) rfl ?_
 obtain ⟨v1001, e1001, hF⟩ := bind_get hF
 refine qc (AI v1001) [] false (con_spec_l03Tone e1001) c228_ok (by first | rfl | simp) rfl ?_
 refine qp (AI v1001) rfl ?_
 refine r_nil ?_
 refine w_seq ?_
 refine ws 448 1088 ?_
 refine qp (.val none (.ptr [.str v0.1, .sl 1 (v0.2.1.map vI), .sl 1 (v0.2.2.1.map vI), .int .i64 v0.2.2.2.1, .int .i64 v0.2.2.2.2.1, .sl 1 (v0.2.2.2.2.2.map (eL 1 vI))])) rfl (qp (AI v1000) rfl ?_)
 obtain ⟨v1004, e1004, hF⟩ := bind_get hF
 refine qc (AB v1004) [] false (con_spec_l05Tone e1004) c223_ok (by first | rfl | simp) rfl ?_
 refine qp (AB (!v1004)) rfl (qp (AB (!v1004)) rfl ?_)
 refine q_case 18 hF rfl (fun hF => ?_) (fun hF => ?_)
 ·
  refine qn rfl (qn rfl (qn rfl (qn rfl (qp (AB true) rfl ?_))))
  refine r_nil ?_
  refine w_true rfl ?_
  refine ws 1088 1152 ?_
  refine qp (AI 1) rfl ?_
  refine r_nil ?_
  refine w_ret ?_
  refine thenQ_r ?_
  cases hF
  exact eR
 ·
  refine qg (.val none (.ptr [.str v0.1, .sl 1 (v0.2.1.map vI), .sl 1 (v0.2.2.1.map vI), .int .i64 v0.2.2.2.1, .int .i64 v0.2.2.2.2.1, .sl 1 (v0.2.2.2.2.2.map (eL 1 vI))])) rfl rfl (qg (AI v1001) rfl rfl ?_)
  obtain ⟨v1005, e1005, hF⟩ := bind_get hF
  refine qcg (AB v1005) [] false rfl (con_spec_l05Tone e1005) c223_ok (by first | rfl | simp) rfl ?_
  refine qg (AB (!v1005)) rfl rfl (qp (AB (!v1005)) rfl ?_)
  refine r_nil ?_
  refine cF hF (fun hF => ?_) fun hF => ?_
  ·
   refine ws 1088 1152 ?_
   refine qp (AI 1) rfl ?_
   refine r_nil ?_
   refine w_ret ?_
   refine thenQ_r ?_
   cases hF
   exact eR
  ·
   refine w_skip ?_
   refine thenQ_n ?_
   refine w_seq ?_
   refine ws 1088 1600 ?_
   refine qp (AI v1) rfl (qp (AI v2) rfl (qp (AI (w64 (v1 - v2))) rfl (qp (AI v2) rfl (qp (AI v1) rfl (qp (AI (w64 (v2 - v1))) rfl ?_)))))
   obtain ⟨v1006, e1006, hF⟩ := bind_get hF
   refine qc (AI v1006) [] false (con_spec_l00Max e1006) c187_ok (by first | rfl | simp) rfl ?_
   refine qp (AB (decide ((12 : Int) < v1006))) rfl ?_
   refine r_nil ?_
   refine cF hF (fun hF => ?_) fun hF => ?_
   ·
    refine ws 1600 1664 ?_
    refine qp (AI 2) rfl ?_
    refine r_nil ?_
    refine w_ret ?_
    refine thenQ_r ?_
    cases hF
    exact eR
   ·
    refine w_skip ?_
    refine thenQ_n ?_
    refine w_meet (fun s' => s' = mkS [(0, .val none (.ptr [.str v0.1, .sl 1 (v0.2.1.map vI), .sl 1 (v0.2.2.1.map vI), .int .i64 v0.2.2.2.1, .int .i64 v0.2.2.2.2.1, .sl 1 (v0.2.2.2.2.2.map (eL 1 vI))])), (1, AI v1), (2, AI v2), (7, AI v1000), (8, AI v1001)] (fo []) 1 ∧ F_spec_l05Reason_j0 v0 v1 v2 v1000 v1001 = some r) ?_ ?_
    ·
     refine ws 1600 2368 ?_
     refine qp (AI v2) rfl (qp (AI v1) rfl (qp (AB (decide (v1 < v2))) rfl (qp (AB (decide (v1 < v2))) rfl ?_)))
     refine q_case 35 hF rfl (fun hF => ?_) (fun hF => ?_)
     ·
      refine qg (.val none (.ptr [.str v0.1, .sl 1 (v0.2.1.map vI), .sl 1 (v0.2.2.1.map vI), .int .i64 v0.2.2.2.1, .int .i64 v0.2.2.2.2.1, .sl 1 (v0.2.2.2.2.2.map (eL 1 vI))])) rfl rfl (qg (.val none (.ptr [.str v0.1, .sl 1 (v0.2.1.map vI), .sl 1 (v0.2.2.1.map vI), .int .i64 v0.2.2.2.1, .int .i64 v0.2.2.2.2.1, .sl 1 (v0.2.2.2.2.2.map (eL 1 vI))])) rfl rfl (qg (.val none (.ptr [.sl 1 (v0.2.1.map vI), .sl 1 (v0.2.2.1.map vI), .int .i64 v0.2.2.2.1, .int .i64 v0.2.2.2.2.1, .sl 1 (v0.2.2.2.2.2.map (eL 1 vI))])) rfl rfl (qg (AL 1 (v0.2.1.map vI)) rfl rfl (qg (AI v1001) rfl rfl ?_))))
      obtain ⟨v1008, e1008, hF⟩ := bind_get hF
      refine qcg (AB v1008) [] false rfl (con_spec_l00Has e1008) c207_ok (by first | rfl | simp) rfl ?_
      refine qg (AB (!v1008)) rfl rfl (qp (AB (!v1008)) rfl ?_)
      refine r_nil ?_
      refine cF hF (fun hF => ?_) fun hF => ?_
      ·
       refine ws 2368 2432 ?_
       refine qp (AI 3) rfl ?_
       refine r_nil ?_
       refine w_ret ?_
       refine thenQ_r ?_
       cases hF
       exact eR
      ·
       refine w_skip ?_
       refine thenQ_n ?_
       refine aw_ren (l' := [(0, .val none (.ptr [.str v0.1, .sl 1 (v0.2.1.map vI), .sl 1 (v0.2.2.1.map vI), .int .i64 v0.2.2.2.1, .int .i64 v0.2.2.2.2.1, .sl 1 (v0.2.2.2.2.2.map (eL 1 vI))])), (1, AI v1), (2, AI v2), (7, AI v1000), (8, AI v1001)]) (L := []) [0, 1, 2, 7, 8] [] 1 (by first | rfl | simp) (by first | rfl | simp) (by decide) (by decide) (by decide) ⟨rfl, hF⟩
     ·
      refine qn rfl (qn rfl (qn rfl (qn rfl (qn rfl (qn rfl (qn rfl (qp (AB false) rfl ?_)))))))
      refine r_nil ?_
      refine w_false rfl ?_
      refine w_skip ?_
      refine thenQ_n ?_
      refine aw_ren (l' := [(0, .val none (.ptr [.str v0.1, .sl 1 (v0.2.1.map vI), .sl 1 (v0.2.2.1.map vI), .int .i64 v0.2.2.2.1, .int .i64 v0.2.2.2.2.1, .sl 1 (v0.2.2.2.2.2.map (eL 1 vI))])), (1, AI v1), (2, AI v2), (7, AI v1000), (8, AI v1001)]) (L := []) [0, 1, 2, 7, 8] [] 1 (by first | rfl | simp) (by first | rfl | simp) (by decide) (by decide) (by decide) ⟨rfl, hF⟩
    ·
     rintro s' ⟨rfl, hF⟩
     unfold F_spec_l05Reason_j0 at hF
     refine w_meet (fun s' => s' = mkS [(0, .val none (.ptr [.str v0.1, .sl 1 (v0.2.1.map vI), .sl 1 (v0.2.2.1.map vI), .int .i64 v0.2.2.2.1, .int .i64 v0.2.2.2.2.1, .sl 1 (v0.2.2.2.2.2.map (eL 1 vI))])), (7, AI v1000), (8, AI v1001)] (fo []) 1 ∧ F_spec_l05Reason_j1 v0 v1000 v1001 = some r) ?_ ?_
     ·
      refine ws 1 769 ?_
      refine qp (AI v2) rfl (qp (AI v1) rfl (qp (AB (decide (v2 < v1))) rfl (qp (AB (decide (v2 < v1))) rfl ?_)))
      refine q_case 47 hF rfl (fun hF => ?_) (fun hF => ?_)
      ·
       refine qg (.val none (.ptr [.str v0.1, .sl 1 (v0.2.1.map vI), .sl 1 (v0.2.2.1.map vI), .int .i64 v0.2.2.2.1, .int .i64 v0.2.2.2.2.1, .sl 1 (v0.2.2.2.2.2.map (eL 1 vI))])) rfl rfl (qg (.val none (.ptr [.str v0.1, .sl 1 (v0.2.1.map vI), .sl 1 (v0.2.2.1.map vI), .int .i64 v0.2.2.2.1, .int .i64 v0.2.2.2.2.1, .sl 1 (v0.2.2.2.2.2.map (eL 1 vI))])) rfl rfl (qg (.val none (.ptr [.sl 1 (v0.2.2.1.map vI), .int .i64 v0.2.2.2.1, .int .i64 v0.2.2.2.2.1, .sl 1 (v0.2.2.2.2.2.map (eL 1 vI))])) rfl rfl (qg (AL 1 (v0.2.2.1.map vI)) rfl rfl (qg (AI v1001) rfl rfl ?_))))
       obtain ⟨v1009, e1009, hF⟩ := bind_get hF
       refine qcg (AB v1009) [] false rfl (con_spec_l00Has e1009) c207_ok (by first | rfl | simp) rfl ?_
       refine qg (AB (!v1009)) rfl rfl (qp (AB (!v1009)) rfl ?_)
       refine r_nil ?_
       refine cF hF (fun hF => ?_) fun hF => ?_
       ·
        refine ws 769 833 ?_
        refine qp (AI 4) rfl ?_
        refine r_nil ?_
        refine w_ret ?_
        refine thenQ_r ?_
        cases hF
        exact eR
       ·
        refine w_skip ?_
        refine thenQ_n ?_
        refine aw_ren (l' := [(0, .val none (.ptr [.str v0.1, .sl 1 (v0.2.1.map vI), .sl 1 (v0.2.2.1.map vI), .int .i64 v0.2.2.2.1, .int .i64 v0.2.2.2.2.1, .sl 1 (v0.2.2.2.2.2.map (eL 1 vI))])), (7, AI v1000), (8, AI v1001)]) (L := []) [0, 7, 8] [] 1 (by first | rfl | simp) (by first | rfl | simp) (by decide) (by decide) (by decide) ⟨rfl, hF⟩
      ·
       refine qn rfl (qn rfl (qn rfl (qn rfl (qn rfl (qn rfl (qn rfl (qp (AB false) rfl ?_)))))))
       refine r_nil ?_
       refine w_false rfl ?_
       refine w_skip ?_
       refine thenQ_n ?_
       refine aw_ren (l' := [(0, .val none (.ptr [.str v0.1, .sl 1 (v0.2.1.map vI), .sl 1 (v0.2.2.1.map vI), .int .i64 v0.2.2.2.1, .int .i64 v0.2.2.2.2.1, .sl 1 (v0.2.2.2.2.2.map (eL 1 vI))])), (7, AI v1000), (8, AI v1001)]) (L := []) [0, 7, 8] [] 1 (by first | rfl | simp) (by first | rfl | simp) (by decide) (by decide) (by decide) ⟨rfl, hF⟩
     ·
      rintro s' ⟨rfl, hF⟩
      unfold F_spec_l05Reason_j1 at hF
      refine w_seq ?_
      refine ws 1 65 ?_
      refine qp (AI 0) rfl ?_
      refine r_nil ?_
      refine w_block ?_
      refine wr (l' := [(0, .val none (.ptr [.str v0.1, .sl 1 (v0.2.1.map vI), .sl 1 (v0.2.2.1.map vI), .int .i64 v0.2.2.2.1, .int .i64 v0.2.2.2.2.1, .sl 1 (v0.2.2.2.2.2.map (eL 1 vI))])), (7, AI v1000), (8, AI v1001), (9, AI 0)]) (L := []) [0, 7, 8, 9] [] 1 ?_
      refine w_loopF (F_spec_l05Reason_l2 v0 v1000 v1001) (fun s : Int => mkS [(0, .val none (.ptr [.str v0.1, .sl 1 (v0.2.1.map vI), .sl 1 (v0.2.2.1.map vI), .int .i64 v0.2.2.2.1, .int .i64 v0.2.2.2.2.1, .sl 1 (v0.2.2.2.2.2.map (eL 1 vI))])), (7, AI v1000), (8, AI v1001), (9, AI s)] (fo []) 1) hF ?_
      rintro k1 v1018 hF
      rw [F_spec_l05Reason_l2] at hF
      try dsimp only
      refine w_seq ?_
      refine ws 1 449 ?_
      refine qp (AI v1018) rfl (qp (.val none (.ptr [.str v0.1, .sl 1 (v0.2.1.map vI), .sl 1 (v0.2.2.1.map vI), .int .i64 v0.2.2.2.1, .int .i64 v0.2.2.2.2.1, .sl 1 (v0.2.2.2.2.2.map (eL 1 vI))])) rfl (qp (.val none (.ptr [.str v0.1, .sl 1 (v0.2.1.map vI), .sl 1 (v0.2.2.1.map vI), .int .i64 v0.2.2.2.1, .int .i64 v0.2.2.2.2.1, .sl 1 (v0.2.2.2.2.2.map (eL 1 vI))])) rfl (qp (.val none (.ptr [.sl 1 (v0.2.2.2.2.2.map (eL 1 vI))])) rfl (qp (AL 1 (v0.2.2.2.2.2.map (eL 1 vI))) rfl (qp (AI (v0.2.2.2.2.2.length : Int)) (ev_len_n rfl) (qp (AB (decide (v1018 < (v0.2.2.2.2.2.length : Int)))) rfl ?_))))))
      refine r_nil ?_
      refine cF hF (fun hF => ?_) fun hF => ?_
      ·
       refine w_skip ?_
       refine thenQ_n ?_
       refine w_seq ?_
       refine w_block ?_
       refine ws 449 1985 ?_
       refine qp (.val none (.ptr [.str v0.1, .sl 1 (v0.2.1.map vI), .sl 1 (v0.2.2.1.map vI), .int .i64 v0.2.2.2.1, .int .i64 v0.2.2.2.2.1, .sl 1 (v0.2.2.2.2.2.map (eL 1 vI))])) rfl (qp (.val none (.ptr [.str v0.1, .sl 1 (v0.2.1.map vI), .sl 1 (v0.2.2.1.map vI), .int .i64 v0.2.2.2.1, .int .i64 v0.2.2.2.2.1, .sl 1 (v0.2.2.2.2.2.map (eL 1 vI))])) rfl (qp (.val none (.ptr [.sl 1 (v0.2.2.2.2.2.map (eL 1 vI))])) rfl (qp (AL 1 (v0.2.2.2.2.2.map (eL 1 vI))) rfl (qp (AI v1018) rfl ?_))))
       obtain ⟨v1010, e1010, hF⟩ := bind_get hF
       refine qp (.val none (.ptr [.sl 1 (v1010.map vI)])) (ev_iad_n rfl rfl e1010 rfl) (qp (AL 1 (v1010.map vI)) rfl ?_)
       obtain ⟨v1011, e1011, hF⟩ := bind_get hF
       refine qp (.val none (.ptr [.int .i64 v1011])) (ev_iad_n rfl rfl e1011 rfl) (qp (AI v1011) rfl (qp (AI v1000) rfl (qp (AB (decide (v1011 = v1000))) rfl (qp (AB (decide (v1011 = v1000))) rfl ?_))))
       refine q_case 76 hF rfl (fun hF => ?_) (fun hF => ?_)
       ·
        refine qg (.val none (.ptr [.str v0.1, .sl 1 (v0.2.1.map vI), .sl 1 (v0.2.2.1.map vI), .int .i64 v0.2.2.2.1, .int .i64 v0.2.2.2.2.1, .sl 1 (v0.2.2.2.2.2.map (eL 1 vI))])) rfl rfl (qg (.val none (.ptr [.str v0.1, .sl 1 (v0.2.1.map vI), .sl 1 (v0.2.2.1.map vI), .int .i64 v0.2.2.2.1, .int .i64 v0.2.2.2.2.1, .sl 1 (v0.2.2.2.2.2.map (eL 1 vI))])) rfl rfl (qg (.val none (.ptr [.sl 1 (v0.2.2.2.2.2.map (eL 1 vI))])) rfl rfl (qg (AL 1 (v0.2.2.2.2.2.map (eL 1 vI))) rfl rfl (qg (AI v1018) rfl rfl ?_))))
        obtain ⟨v1012, e1012, hF⟩ := bind_get hF
        refine qg (.val none (.ptr [.sl 1 (v1012.map vI)])) rfl (ev_iad_n rfl rfl e1012 rfl) (qg (AL 1 (v1012.map vI)) rfl rfl ?_)
        obtain ⟨v1013, e1013, hF⟩ := bind_get hF
        refine qg (.val none (.ptr [.int .i64 v1013])) rfl (ev_iad_n rfl rfl e1013 rfl) (qg (AI v1013) rfl rfl (qg (AI v1001) rfl rfl (qg (AB (decide (v1013 = v1001))) rfl rfl (qp (AB (decide (v1013 = v1001))) rfl ?_))))
        refine r_nil ?_
        refine cF hF (fun hF => ?_) fun hF => ?_
        ·
         refine ws 1985 2049 ?_
         refine qp (AI 5) rfl ?_
         refine r_nil ?_
         refine w_ret ?_
         refine blockQ_r ?_
         refine thenQ_r ?_
         refine thenQ_r ?_
         refine blockQ_r ?_
         refine thenQ_r ?_
         cases hF
         exact eR
        ·
         refine w_skip ?_
         refine blockQ_n ?_
         refine thenQ_n ?_
         refine w_reg 1985 2177 rfl rfl ?_
         refine qp (AI v1018) rfl (qp (AI (w64 (v1018 + 1))) rfl (qp (AI (w64 (v1018 + 1))) rfl ?_))
         refine r_nil ?_
         refine thenQ_n ?_
         refine ar (l' := [(0, .val none (.ptr [.str v0.1, .sl 1 (v0.2.1.map vI), .sl 1 (v0.2.2.1.map vI), .int .i64 v0.2.2.2.1, .int .i64 v0.2.2.2.2.1, .sl 1 (v0.2.2.2.2.2.map (eL 1 vI))])), (7, AI v1000), (8, AI v1001), (9, AI (w64 (v1018 + 1)))]) (L := []) [0, 7, 8, 9] [] 1 ⟨_, by rfl, hF⟩
       ·
        refine qn rfl (qn rfl (qn rfl (qn rfl (qn rfl (qn rfl (qn rfl (qn rfl ?_)))))))
        refine qn rfl (qn rfl (qn rfl (qp (AB false) rfl ?_)))
        refine r_nil ?_
        refine w_false rfl ?_
        refine w_skip ?_
        refine blockQ_n ?_
        refine thenQ_n ?_
        refine w_reg 1985 2177 rfl rfl ?_
        refine qp (AI v1018) rfl (qp (AI (w64 (v1018 + 1))) rfl (qp (AI (w64 (v1018 + 1))) rfl ?_))
        refine r_nil ?_
        refine thenQ_n ?_
        refine ar (l' := [(0, .val none (.ptr [.str v0.1, .sl 1 (v0.2.1.map vI), .sl 1 (v0.2.2.1.map vI), .int .i64 v0.2.2.2.1, .int .i64 v0.2.2.2.2.1, .sl 1 (v0.2.2.2.2.2.map (eL 1 vI))])), (7, AI v1000), (8, AI v1001), (9, AI (w64 (v1018 + 1)))]) (L := []) [0, 7, 8, 9] [] 1 ⟨_, by rfl, hF⟩
      ·
       refine w_exit ?_
       refine thenQ_e ?_
       refine thenQ_e ?_
       refine blockQ_e ?_
       refine thenQ_n ?_
       refine ws 449 513 ?_
       refine qp (AI 0) rfl ?_
       refine r_nil ?_
       refine w_ret ?_
       cases hF
       exact eR

def c145 : MC := (.seq (.reg [rg 6 (.f (.alloc [((.int .i64 0), (0, false)), ((.int .i64 0), (0, false)), ((.sl 0 []), (1, false)), ((.sl 0 []), (3, false))]))]) (.seq (.reg [rg 13 (.f (.bsl 1 [])), mvt 7 13]) (.seq (.seq (.reg [mvt 14 1, mvt 8 14]) (.block 0 (.loop (.seq (.seq (.reg [mvt 15 8, mvt 16 2, rg 17 (.p true (.bin .leq (.t 15) (.t 16)))]) (.cond (.t 17) .skip (.exit 0))) (.seq (.block 1 (.seq (.reg [mvt 20 0, mvt 21 8, rg 22 (.call true 228 [(.t 21)]), rg 23 (.call true 223 [(.t 20), (.t 22)])]) (.cond (.t 23) (.reg [mvt 24 7, mvt 25 8, rg 26 (.f (.bsl 1 [(.t 25)])), rg 27 (.f (.app (.t 24) (.t 26) 1 8 true)), mvt 7 27]) .skip))) (.reg [mvt 18 8, rg 19 (.p true (.bin .add (.t 18) (.c (.int .i64 1)))), mvt 8 19])))))) (.seq (.reg [mvt 28 7, rg 29 (.p true (.len (.t 28))), rg 30 (.p true (.bin .add (.t 29) (.c (.int .i64 1)))), rg 31 (.f (.bsl 1 [])), rg 32 (.f (.bsl 3 [])), rg 33 (.f (.bld [((.int .i64 0), (0, true)), ((.int .i64 0), (0, false)), ((.sl 0 []), (1, true)), ((.sl 0 []), (3, true))] [(0, (1, (.t 30))), (2, (1, (.t 31))), (3, (1, (.t 32)))])), rg 9 (.f (.alloc [((.int .i64 0), (0, false)), ((.int .i64 0), (0, false)), ((.sl 0 []), (1, false)), ((.sl 0 []), (3, false))])), ⟨none, none, (.f (.st (.t 9) (.t 33) 4))⟩]) (.seq (.seq (.reg [rg 10 (.p true (.mv (.c (.int .i64 0))))]) (.block 2 (.loop (.seq (.seq (.reg [mvt 34 10, mvt 35 7, rg 36 (.p true (.len (.t 35))), rg 37 (.p true (.bin .lss (.t 34) (.t 36)))]) (.cond (.t 37) .skip (.exit 2))) (.seq (.block 3 (.seq (.reg [rg 40 (.p false (.fad (.t 9) 3)), rg 41 (.p false (.ld (.t 40) 1 false)), rg 42 (.p false (.mv (.t 7))), rg 43 (.p false (.mv (.t 10))), rg 44 (.p false (.iad (.t 42) (.t 43) 1)), rg 45 (.p false (.ld (.t 44) 1 false)), rg 46 (.p false (.mv (.t 10))), rg 47 (.p false (.bin .add (.t 46) (.c (.int .i64 1)))), rg 48 (.f (.bld [((.int .i64 0), (0, false)), ((.int .i64 0), (0, true)), ((.int .i64 0), (0, true))] [(1, (1, (.t 45))), (2, (1, (.t 47)))])), rg 49 (.f (.bslp 3 [(.t 48)])), rg 50 (.f (.app (.t 41) (.t 49) 3 24 true)), rg 51 (.p false (.fad (.t 9) 3)), ⟨none, none, (.f (.st (.t 51) (.t 50) 1))⟩]) (.seq (.reg [mvt 52 7, mvt 53 10, rg 54 (.p true (.iad (.t 52) (.t 53) 1)), rg 55 (.p true (.ld (.t 54) 1 false)), rg 56 (.call true 228 [(.t 55)]), rg 57 (.p true (.bin .eql (.t 56) (.c (.int .i64 0))))]) (.cond (.t 57) (.reg [rg 58 (.p true (.fad (.t 9) 2)), rg 59 (.p true (.ld (.t 58) 1 false)), mvt 60 10, rg 61 (.p true (.bin .add (.t 60) (.c (.int .i64 1)))), rg 62 (.f (.bsl 1 [(.t 61)])), rg 63 (.f (.app (.t 59) (.t 62) 1 8 true)), rg 64 (.p true (.fad (.t 9) 2)), ⟨none, none, (.f (.st (.t 64) (.t 63) 1))⟩]) .skip)))) (.reg [mvt 38 10, rg 39 (.p true (.bin .add (.t 38) (.c (.int .i64 1)))), mvt 10 39])))))) (.seq (.seq (.reg [rg 11 (.p true (.mv (.c (.int .i64 0))))]) (.block 4 (.loop (.seq (.seq (.reg [mvt 65 11, mvt 66 7, rg 67 (.p true (.len (.t 66))), rg 68 (.p true (.bin .lss (.t 65) (.t 67)))]) (.cond (.t 68) .skip (.exit 4))) (.seq (.block 5 (.seq (.reg [rg 12 (.p true (.mv (.c (.int .i64 0))))]) (.block 6 (.loop (.seq (.seq (.reg [mvt 71 12, mvt 72 7, rg 73 (.p true (.len (.t 72))), rg 74 (.p true (.bin .lss (.t 71) (.t 73)))]) (.cond (.t 74) .skip (.exit 6))) (.seq (.block 7 (.seq (.reg [rg 77 (.p false (.mv (.t 0))), rg 78 (.p false (.mv (.t 7))), rg 79 (.p false (.mv (.t 11))), rg 80 (.p false (.iad (.t 78) (.t 79) 1)), rg 81 (.p false (.ld (.t 80) 1 false)), rg 82 (.p false (.mv (.t 7))), rg 83 (.p false (.mv (.t 12))), rg 84 (.p false (.iad (.t 82) (.t 83) 1)), rg 85 (.p false (.ld (.t 84) 1 false)), rg 86 (.call false 229 [(.t 77), (.t 81), (.t 85)]), rg 87 (.p false (.bin .eql (.t 86) (.c (.int .i64 0))))]) (.cond (.t 87) (.reg [rg 88 (.p false (.fad (.t 9) 3)), rg 89 (.p false (.ld (.t 88) 1 false)), rg 90 (.p false (.mv (.t 11))), rg 91 (.p false (.bin .add (.t 90) (.c (.int .i64 1)))), rg 92 (.p false (.mv (.t 7))), rg 93 (.p false (.mv (.t 12))), rg 94 (.p false (.iad (.t 92) (.t 93) 1)), rg 95 (.p false (.ld (.t 94) 1 false)), rg 96 (.p false (.mv (.t 12))), rg 97 (.p false (.bin .add (.t 96) (.c (.int .i64 1)))), rg 98 (.f (.bld [((.int .i64 0), (0, true)), ((.int .i64 0), (0, true)), ((.int .i64 0), (0, true))] [(0, (1, (.t 91))), (1, (1, (.t 95))), (2, (1, (.t 97)))])), rg 99 (.f (.bslp 3 [(.t 98)])), rg 100 (.f (.app (.t 89) (.t 99) 3 24 true)), rg 101 (.p false (.fad (.t 9) 3)), ⟨none, none, (.f (.st (.t 101) (.t 100) 1))⟩]) .skip))) (.reg [mvt 75 12, rg 76 (.p true (.bin .add (.t 75) (.c (.int .i64 1)))), mvt 12 76]))))))) (.reg [mvt 69 11, rg 70 (.p true (.bin .add (.t 69) (.c (.int .i64 1)))), mvt 11 70])))))) (.seq (.reg [rg 102 (.p true (.ld (.t 9) 4 true)), ⟨none, none, (.f (.st (.t 6) (.t 102) 4))⟩]) .ret)))))))
theorem c145_is : compFn Try.prog 145 = some (c145, [(.cell (.ld (.t 6) 4 true))]) := by kernel_rfl
theorem c145_ok : okFn Try.prog 145 = true := by kernel_rfl

noncomputable def F_spec_l07Of_l3 (v0 : TRaga) (v12 : List Int) (v77 : Int) (k4 : Int × (List TArc) → Option (TGrammar)) (k5 : Int × (List TArc) → Option (TGrammar)) : Int × (List TArc) → Option (TGrammar)
 | (v91, v92) => (bif (decide (v91 < (v12.length : Int))) then ((ix v12 v77).bind fun v1008 => ((ix v12 v91).bind fun v1009 => ((F_spec_l05Reason v0 v1008 v1009).bind fun v1010 => (bif (decide (v1010 = (0 : Int))) then ((ix v12 v91).bind fun v1011 => (need (room (v92.length + ([(w64 (v77 + 1), v1011, w64 (v91 + 1))] : List TArc).length) 24) (k5 (w64 (v91 + 1), v92 ++ ([(w64 (v77 + 1), v1011, w64 (v91 + 1))] : List TArc)))))
 else k5 (w64 (v91 + 1), v92)))))
 else k4 (w64 (v77 + 1), v92))
noncomputable def F_spec_l07Of_l2 (v0 : TRaga) (v12 : List Int) (v30 : List Int) (k4 : Int × (List TArc) → Option (TGrammar)) : Int × (List TArc) → Option (TGrammar)
 | (v77, v78) => (bif (decide (v77 < (v12.length : Int))) then loop (F_spec_l07Of_l3 v0 v12 v77 k4) (0, v78)
 else some (w64 ((v12.length : Int) + 1), 0, v30, v78))
noncomputable def F_spec_l07Of_l1 (v0 : TRaga) (v12 : List Int) (k1 : Int × (List Int) × (List TArc) → Option (TGrammar)) : Int × (List Int) × (List TArc) → Option (TGrammar)
 | (v29, v30, v31) => (bif (decide (v29 < (v12.length : Int))) then ((ix v12 v29).bind fun v1003 => (need (room (v31.length + ([(0, v1003, w64 (v29 + 1))] : List TArc).length) 24) (((ix v12 v29).bind fun v1005 => ((F_spec_l03Tone v1005).bind fun v1006 => (bif (decide (v1006 = (0 : Int))) then (need (room (v30.length + ([w64 (v29 + 1)] : List Int).length) 8) (k1 (w64 (v29 + 1), v30 ++ ([w64 (v29 + 1)] : List Int), v31 ++ ([(0, v1003, w64 (v29 + 1))] : List TArc))))
 else k1 (w64 (v29 + 1), v30, v31 ++ ([(0, v1003, w64 (v29 + 1))] : List TArc))))))))
 else loop (F_spec_l07Of_l2 v0 v12 v30) (0, v31))
noncomputable def F_spec_l07Of_l0 (v0 : TRaga) (v2 : Int) (k0 : Int × (List Int) → Option (TGrammar)) : Int × (List Int) → Option (TGrammar)
 | (v11, v12) => (bif (decide (v11 ≤ v2)) then ((F_spec_l03Tone v11).bind fun v1000 => ((F_spec_l05Tone v0 v1000).bind fun v1001 => (bif v1001 then (need (room (v12.length + [v11].length) 8) (k0 (w64 (v11 + 1), v12 ++ [v11])))
 else k0 (w64 (v11 + 1), v12))))
 else loop (F_spec_l07Of_l1 v0 v12) (0, [], []))
noncomputable def F_spec_l07Of (v0 : TRaga) (v1 : Int) (v2 : Int) : Option (TGrammar) :=
 loop (F_spec_l07Of_l0 v0 v2) (v1, [])
@[simp] def res_spec_l07Of (r : TGrammar) : RV := .one (.agg [.val (.int .i64 r.1), .val (.int .i64 r.2.1), .row true 1 (r.2.2.1.map vI), .row true 3 (r.2.2.2.map eArc)])
theorem con_spec_l07Of {v0 : TRaga} {v1 : Int} {v2 : Int} {r : TGrammar} (hF : F_spec_l07Of v0 v1 v2 = some r) : Con Try.prog 145 [.ptr [.str v0.1, .sl 1 (v0.2.1.map vI), .sl 1 (v0.2.2.1.map vI), .int .i64 v0.2.2.2.1, .int .i64 v0.2.2.2.2.1, .sl 1 (v0.2.2.2.2.2.map (eL 1 vI))], .int .i64 v1, .int .i64 v2] (res_spec_l07Of r) := by
 unfold F_spec_l07Of at hF
 refine con_of c145_is fun N => ?_
 refine ws 0 64 ?_
 refine qf (.ptr 0 0 0) [(0, .box [AI 0, AI 0, .sl 1 0 0, .sl 2 0 0]), (2, .row true 3 (([] : List Int).map vI)), (1, .row true 1 (([] : List Int).map vI))] (by simp) ?_
 refine r_nil ?_
 refine ws 64 192 ?_
 refine qf (.sl 64 0 0) [(64, .row true 1 (([] : List Int).map vI)), (0, .box [AI 0, AI 0, .sl 1 0 0, .sl 2 0 0]), (2, .row true 3 (([] : List Int).map vI)), (1, .row true 1 (([] : List Int).map vI))] (by simp [List.take_of_length_le]) ?_
 refine qp (.sl 64 0 0) rfl ?_
 refine r_nil ?_
 refine w_seq ?_
 refine ws 192 320 ?_
 refine qp (AI v1) rfl (qp (AI v1) rfl ?_)
 refine r_nil ?_
 refine w_block ?_
 refine wr (l' := [(0, .val none (.ptr [.str v0.1, .sl 1 (v0.2.1.map vI), .sl 1 (v0.2.2.1.map vI), .int .i64 v0.2.2.2.1, .int .i64 v0.2.2.2.2.1, .sl 1 (v0.2.2.2.2.2.map (eL 1 vI))])), (2, AI v2), (6, .ptr 0 0 0), (7, .sl 1 0 0), (8, AI v1)]) (L := [(3, .row true 3 (([] : List Int).map vI)), (2, .row true 1 (([] : List Int).map vI)), (1, .row true 1 (([] : List Int).map vI)), (0, .box [AI 0, AI 0, .sl 2 0 0, .sl 3 0 0])]) [0, 2, 6, 7, 8] [(2, 3), (1, 2), (64, 1), (0, 0)] 4 ?_
 refine w_loopF (F_spec_l07Of_l0 v0 v2) (fun s : Int × (List Int) => mkS [(0, .val none (.ptr [.str v0.1, .sl 1 (v0.2.1.map vI), .sl 1 (v0.2.2.1.map vI), .int .i64 v0.2.2.2.1, .int .i64 v0.2.2.2.2.1, .sl 1 (v0.2.2.2.2.2.map (eL 1 vI))])), (2, AI v2), (6, .ptr 0 0 0), (7, .sl 1 0 s.2.length), (8, AI s.1)] (fo [(3, .row true 3 (([] : List Int).map vI)), (2, .row true 1 (([] : List Int).map vI)), (1, .row true 1 (s.2.map vI)), (0, .box [AI 0, AI 0, .sl 2 0 0, .sl 3 0 0])]) 4) hF ?_
 rintro k0 ⟨v11, v12⟩ hF
 rw [F_spec_l07Of_l0] at hF
 try dsimp only
 refine w_seq ?_
 refine ws 4 196 ?_
 refine qp (AI v11) rfl (qp (AI v2) rfl (qp (AB (decide (v11 ≤ v2))) rfl ?_))
 refine r_nil ?_
 refine cF hF (fun hF => ?_) fun hF => ?_
 ·
  refine w_skip ?_
  refine thenQ_n ?_
  refine w_seq ?_
  refine w_block ?_
  refine ws 196 452 ?_
  refine qp (.val none (.ptr [.str v0.1, .sl 1 (v0.2.1.map vI), .sl 1 (v0.2.2.1.map vI), .int .i64 v0.2.2.2.1, .int .i64 v0.2.2.2.2.1, .sl 1 (v0.2.2.2.2.2.map (eL 1 vI))])) rfl (qp (AI v11) rfl ?_)
  obtain ⟨v1000, e1000, hF⟩ := bind_get hF
  refine qc (AI v1000) [(3, .row true 3 (([] : List Int).map vI)), (2, .row true 1 (([] : List Int).map vI)), (1, .row true 1 (v12.map vI)), (0, .box [AI 0, AI 0, .sl 2 0 0, .sl 3 0 0])] false (con_spec_l03Tone e1000) c228_ok (by first | rfl | simp) rfl ?_
  obtain ⟨v1001, e1001, hF⟩ := bind_get hF
  refine qc (AB v1001) [(3, .row true 3 (([] : List Int).map vI)), (2, .row true 1 (([] : List Int).map vI)), (1, .row true 1 (v12.map vI)), (0, .box [AI 0, AI 0, .sl 2 0 0, .sl 3 0 0])] false (con_spec_l05Tone e1001) c223_ok (by first | rfl | simp) rfl ?_
  refine r_nil ?_
  refine cF hF (fun hF => ?_) fun hF => ?_
  ·
   refine w_reg 452 772 rfl rfl ?_
   refine qp (.sl 1 0 v12.length) rfl (qp (AI v11) rfl ?_)
   refine qf (.sl 580 0 ([v11].length)) [(580, .row true 1 ([v11].map vI)), (3, .row true 3 (([] : List Int).map vI)), (2, .row true 1 (([] : List Int).map vI)), (1, .row true 1 (v12.map vI)), (0, .box [AI 0, AI 0, .sl 2 0 0, .sl 3 0 0])] (by simp [List.take_of_length_le]) ?_
   obtain ⟨g1002, hF⟩ := need_some hF
   refine qf (.sl 644 0 ((v12 ++ [v11]).length)) [(644, .row true 1 ((v12 ++ [v11]).map vI)), (1, .dead), (580, .dead), (580, .row true 1 ([v11].map vI)), (3, .row true 3 (([] : List Int).map vI)), (2, .row true 1 (([] : List Int).map vI)), (1, .row true 1 (v12.map vI)), (0, .box [AI 0, AI 0, .sl 2 0 0, .sl 3 0 0])] (effT_app_l rfl (by simp) rfl rfl (by simp) rfl (by decide) g1002 rfl) ?_
   refine qp (.sl 644 0 ((v12 ++ [v11]).length)) rfl ?_
   refine r_nil ?_
   refine blockQ_n ?_
   refine thenQ_n ?_
   refine w_reg 772 964 rfl rfl ?_
   refine qp (AI v11) rfl (qp (AI (w64 (v11 + 1))) rfl (qp (AI (w64 (v11 + 1))) rfl ?_))
   refine r_nil ?_
   refine thenQ_n ?_
   refine ar (l' := [(0, .val none (.ptr [.str v0.1, .sl 1 (v0.2.1.map vI), .sl 1 (v0.2.2.1.map vI), .int .i64 v0.2.2.2.1, .int .i64 v0.2.2.2.2.1, .sl 1 (v0.2.2.2.2.2.map (eL 1 vI))])), (2, AI v2), (6, .ptr 0 0 0), (7, .sl 1 0 (v12 ++ [v11]).length), (8, AI (w64 (v11 + 1)))]) (L := [(3, .row true 3 (([] : List Int).map vI)), (2, .row true 1 (([] : List Int).map vI)), (1, .row true 1 ((v12 ++ [v11]).map vI)), (0, .box [AI 0, AI 0, .sl 2 0 0, .sl 3 0 0])]) [0, 2, 6, 7, 8] [(3, 3), (2, 2), (644, 1), (0, 0)] 4 ⟨_, by rfl, hF⟩
  ·
   refine w_skip ?_
   refine blockQ_n ?_
   refine thenQ_n ?_
   refine w_reg 452 644 rfl rfl ?_
   refine qp (AI v11) rfl (qp (AI (w64 (v11 + 1))) rfl (qp (AI (w64 (v11 + 1))) rfl ?_))
   refine r_nil ?_
   refine thenQ_n ?_
   refine ar (l' := [(0, .val none (.ptr [.str v0.1, .sl 1 (v0.2.1.map vI), .sl 1 (v0.2.2.1.map vI), .int .i64 v0.2.2.2.1, .int .i64 v0.2.2.2.2.1, .sl 1 (v0.2.2.2.2.2.map (eL 1 vI))])), (2, AI v2), (6, .ptr 0 0 0), (7, .sl 1 0 v12.length), (8, AI (w64 (v11 + 1)))]) (L := [(3, .row true 3 (([] : List Int).map vI)), (2, .row true 1 (([] : List Int).map vI)), (1, .row true 1 (v12.map vI)), (0, .box [AI 0, AI 0, .sl 2 0 0, .sl 3 0 0])]) [0, 2, 6, 7, 8] [(3, 3), (2, 2), (1, 1), (0, 0)] 4 ⟨_, by rfl, hF⟩
 ·
  refine w_exit ?_
  refine thenQ_e ?_
  refine thenQ_e ?_
  refine blockQ_e ?_
  refine thenQ_n ?_
  refine ws 196 708 ?_
  refine qp (.sl 1 0 v12.length) rfl (qp (AI (v12.length : Int)) rfl (qp (AI (w64 ((v12.length : Int) + 1))) rfl ?_))
  refine qf (.sl 388 0 0) [(388, .row true 1 (([] : List Int).map vI)), (3, .row true 3 (([] : List Int).map vI)), (2, .row true 1 (([] : List Int).map vI)), (1, .row true 1 (v12.map vI)), (0, .box [AI 0, AI 0, .sl 2 0 0, .sl 3 0 0])] (by simp [List.take_of_length_le]) ?_
  refine qf (.sl 452 0 0) [(452, .row true 3 (([] : List TArc).map eArc)), (388, .row true 1 (([] : List Int).map vI)), (3, .row true 3 (([] : List Int).map vI)), (2, .row true 1 (([] : List Int).map vI)), (1, .row true 1 (v12.map vI)), (0, .box [AI 0, AI 0, .sl 2 0 0, .sl 3 0 0])] (by simp [List.take_of_length_le]) ?_
  refine qf (.agg [AI (w64 ((v12.length : Int) + 1)), AI 0, .sl 388 0 0, .sl 452 0 0]) [(452, .row true 3 (([] : List TArc).map eArc)), (388, .row true 1 (([] : List Int).map vI)), (3, .row true 3 (([] : List Int).map vI)), (2, .row true 1 (([] : List Int).map vI)), (1, .row true 1 (v12.map vI)), (0, .box [AI 0, AI 0, .sl 2 0 0, .sl 3 0 0])] (by simp) ?_
  refine qf (.ptr 580 0 0) [(580, .box [AI 0, AI 0, .sl 581 0 0, .sl 582 0 0]), (582, .row true 3 (([] : List Int).map vI)), (581, .row true 1 (([] : List Int).map vI)), (452, .row true 3 (([] : List TArc).map eArc)), (388, .row true 1 (([] : List Int).map vI)), (3, .row true 3 (([] : List Int).map vI)), (2, .row true 1 (([] : List Int).map vI)), (1, .row true 1 (v12.map vI)), (0, .box [AI 0, AI 0, .sl 2 0 0, .sl 3 0 0])] (by simp) ?_
  refine qf0 (.undef) [(580, .box [AI (w64 ((v12.length : Int) + 1)), AI 0, .sl 388 0 0, .sl 452 0 0]), (580, .box [AI 0, AI 0, .sl 581 0 0, .sl 582 0 0]), (582, .row true 3 (([] : List Int).map vI)), (581, .row true 1 (([] : List Int).map vI)), (452, .row true 3 (([] : List TArc).map eArc)), (388, .row true 1 (([] : List Int).map vI)), (3, .row true 3 (([] : List Int).map vI)), (2, .row true 1 (([] : List Int).map vI)), (1, .row true 1 (v12.map vI)), (0, .box [AI 0, AI 0, .sl 2 0 0, .sl 3 0 0])] (by simp) ?_
  refine r_nil ?_
  refine w_seq ?_
  refine ws 708 772 ?_
  refine qp (AI 0) rfl ?_
  refine r_nil ?_
  refine w_block ?_
  refine wr (l' := [(0, .val none (.ptr [.str v0.1, .sl 1 (v0.2.1.map vI), .sl 1 (v0.2.2.1.map vI), .int .i64 v0.2.2.2.1, .int .i64 v0.2.2.2.2.1, .sl 1 (v0.2.2.2.2.2.map (eL 1 vI))])), (6, .ptr 0 0 0), (7, .sl 1 0 v12.length), (9, .ptr 2 0 0), (10, AI 0)]) (L := [(6, .row true 3 (([] : List TArc).map eArc)), (5, .row true 1 (([] : List Int).map vI)), (4, .row true 3 (([] : List Int).map vI)), (3, .row true 1 (([] : List Int).map vI)), (2, .box [AI (w64 ((v12.length : Int) + 1)), AI 0, .sl 5 0 0, .sl 6 0 0]), (1, .row true 1 (v12.map vI)), (0, .box [AI 0, AI 0, .sl 3 0 0, .sl 4 0 0])]) [0, 6, 7, 9, 10] [(452, 6), (388, 5), (3, 4), (2, 3), (580, 2), (1, 1), (0, 0)] 7 ?_
  refine w_loopF (F_spec_l07Of_l1 v0 v12) (fun s : Int × (List Int) × (List TArc) => mkS [(0, .val none (.ptr [.str v0.1, .sl 1 (v0.2.1.map vI), .sl 1 (v0.2.2.1.map vI), .int .i64 v0.2.2.2.1, .int .i64 v0.2.2.2.2.1, .sl 1 (v0.2.2.2.2.2.map (eL 1 vI))])), (6, .ptr 0 0 0), (7, .sl 1 0 v12.length), (9, .ptr 2 0 0), (10, AI s.1)] (fo [(6, .row true 3 (s.2.2.map eArc)), (5, .row true 1 (s.2.1.map vI)), (4, .row true 3 (([] : List Int).map vI)), (3, .row true 1 (([] : List Int).map vI)), (2, .box [AI (w64 ((v12.length : Int) + 1)), AI 0, .sl 5 0 s.2.1.length, .sl 6 0 s.2.2.length]), (1, .row true 1 (v12.map vI)), (0, .box [AI 0, AI 0, .sl 3 0 0, .sl 4 0 0])]) 7) hF ?_
  rintro k1 ⟨v29, v30, v31⟩ hF
  rw [F_spec_l07Of_l1] at hF
  try dsimp only
  refine w_seq ?_
  refine ws 7 263 ?_
  refine qp (AI v29) rfl (qp (.sl 1 0 v12.length) rfl (qp (AI (v12.length : Int)) rfl (qp (AB (decide (v29 < (v12.length : Int)))) rfl ?_)))
  refine r_nil ?_
  refine cF hF (fun hF => ?_) fun hF => ?_
  ·
   refine w_skip ?_
   refine thenQ_n ?_
   refine w_seq ?_
   refine w_block ?_
   refine ws 263 1095 ?_
   refine qp (.ptr 2 0 3) rfl (qp (.sl 6 0 v31.length) rfl (qp (.sl 1 0 v12.length) rfl (qp (AI v29) rfl ?_)))
   obtain ⟨v1003, e1003, hF⟩ := bind_get hF
   refine qp (.ptr 1 v29.toNat 0) (ev_iad_r rfl (by simp) rfl rfl e1003) (qp (AI v1003) (ev_ld_r rfl rfl (ix_some e1003).2 rfl rfl) (qp (AI v29) rfl (qp (AI (w64 (v29 + 1))) rfl ?_)))
   refine qf (.agg [AI 0, AI v1003, AI (w64 (v29 + 1))]) [(6, .row true 3 (v31.map eArc)), (5, .row true 1 (v30.map vI)), (4, .row true 3 (([] : List Int).map vI)), (3, .row true 1 (([] : List Int).map vI)), (2, .box [AI (w64 ((v12.length : Int) + 1)), AI 0, .sl 5 0 v30.length, .sl 6 0 v31.length]), (1, .row true 1 (v12.map vI)), (0, .box [AI 0, AI 0, .sl 3 0 0, .sl 4 0 0])] (by simp) ?_
   refine qf (.sl 839 0 (([(0, v1003, w64 (v29 + 1))] : List TArc).length)) [(839, .row true 3 (([(0, v1003, w64 (v29 + 1))] : List TArc).map eArc)), (6, .row true 3 (v31.map eArc)), (5, .row true 1 (v30.map vI)), (4, .row true 3 (([] : List Int).map vI)), (3, .row true 1 (([] : List Int).map vI)), (2, .box [AI (w64 ((v12.length : Int) + 1)), AI 0, .sl 5 0 v30.length, .sl 6 0 v31.length]), (1, .row true 1 (v12.map vI)), (0, .box [AI 0, AI 0, .sl 3 0 0, .sl 4 0 0])] (by simp [List.take_of_length_le]) ?_
   obtain ⟨g1004, hF⟩ := need_some hF
   refine qf (.sl 903 0 ((v31 ++ ([(0, v1003, w64 (v29 + 1))] : List TArc)).length)) [(903, .row true 3 ((v31 ++ ([(0, v1003, w64 (v29 + 1))] : List TArc)).map eArc)), (6, .dead), (839, .dead), (839, .row true 3 (([(0, v1003, w64 (v29 + 1))] : List TArc).map eArc)), (6, .row true 3 (v31.map eArc)), (5, .row true 1 (v30.map vI)), (4, .row true 3 (([] : List Int).map vI)), (3, .row true 1 (([] : List Int).map vI)), (2, .box [AI (w64 ((v12.length : Int) + 1)), AI 0, .sl 5 0 v30.length, .sl 6 0 v31.length]), (1, .row true 1 (v12.map vI)), (0, .box [AI 0, AI 0, .sl 3 0 0, .sl 4 0 0])] (effT_app_l rfl (by simp) rfl rfl (by simp) rfl (by decide) g1004 rfl) ?_
   refine qp (.ptr 2 0 3) rfl ?_
   refine qf0 (.undef) [(2, .box [AI (w64 ((v12.length : Int) + 1)), AI 0, .sl 5 0 v30.length, .sl 903 0 ((v31 ++ ([(0, v1003, w64 (v29 + 1))] : List TArc)).length)]), (903, .row true 3 ((v31 ++ ([(0, v1003, w64 (v29 + 1))] : List TArc)).map eArc)), (6, .dead), (839, .dead), (839, .row true 3 (([(0, v1003, w64 (v29 + 1))] : List TArc).map eArc)), (6, .row true 3 (v31.map eArc)), (5, .row true 1 (v30.map vI)), (4, .row true 3 (([] : List Int).map vI)), (3, .row true 1 (([] : List Int).map vI)), (2, .box [AI (w64 ((v12.length : Int) + 1)), AI 0, .sl 5 0 v30.length, .sl 6 0 v31.length]), (1, .row true 1 (v12.map vI)), (0, .box [AI 0, AI 0, .sl 3 0 0, .sl 4 0 0])] (by simp) ?_
   refine r_nil ?_
   refine ws 1095 1479 ?_
   refine qp (.sl 1 0 v12.length) rfl (qp (AI v29) rfl ?_)
   obtain ⟨v1005, e1005, hF⟩ := bind_get hF
   refine qp (.ptr 1 v29.toNat 0) (ev_iad_r rfl (by simp) rfl rfl e1005) (qp (AI v1005) (ev_ld_r rfl rfl (ix_some e1005).2 rfl rfl) ?_)
   obtain ⟨v1006, e1006, hF⟩ := bind_get hF
   refine qc (AI v1006) [(2, .box [AI (w64 ((v12.length : Int) + 1)), AI 0, .sl 5 0 v30.length, .sl 903 0 ((v31 ++ ([(0, v1003, w64 (v29 + 1))] : List TArc)).length)]), (903, .row true 3 ((v31 ++ ([(0, v1003, w64 (v29 + 1))] : List TArc)).map eArc)), (6, .dead), (839, .dead), (839, .row true 3 (([(0, v1003, w64 (v29 + 1))] : List TArc).map eArc)), (6, .row true 3 (v31.map eArc)), (5, .row true 1 (v30.map vI)), (4, .row true 3 (([] : List Int).map vI)), (3, .row true 1 (([] : List Int).map vI)), (2, .box [AI (w64 ((v12.length : Int) + 1)), AI 0, .sl 5 0 v30.length, .sl 6 0 v31.length]), (1, .row true 1 (v12.map vI)), (0, .box [AI 0, AI 0, .sl 3 0 0, .sl 4 0 0])] false (con_spec_l03Tone e1006) c228_ok (by first | rfl | simp) rfl ?_
   refine qp (AB (decide (v1006 = (0 : Int)))) rfl ?_
   refine r_nil ?_
   refine cF hF (fun hF => ?_) fun hF => ?_
   ·
    refine w_reg 1479 1991 rfl rfl ?_
    refine qp (.ptr 2 0 2) rfl (qp (.sl 5 0 v30.length) rfl (qp (AI v29) rfl (qp (AI (w64 (v29 + 1))) rfl ?_)))
    refine qf (.sl 1735 0 (([w64 (v29 + 1)] : List Int).length)) [(1735, .row true 1 (([w64 (v29 + 1)] : List Int).map vI)), (2, .box [AI (w64 ((v12.length : Int) + 1)), AI 0, .sl 5 0 v30.length, .sl 903 0 ((v31 ++ ([(0, v1003, w64 (v29 + 1))] : List TArc)).length)]), (903, .row true 3 ((v31 ++ ([(0, v1003, w64 (v29 + 1))] : List TArc)).map eArc)), (6, .dead), (839, .dead), (839, .row true 3 (([(0, v1003, w64 (v29 + 1))] : List TArc).map eArc)), (6, .row true 3 (v31.map eArc)), (5, .row true 1 (v30.map vI)), (4, .row true 3 (([] : List Int).map vI)), (3, .row true 1 (([] : List Int).map vI)), (2, .box [AI (w64 ((v12.length : Int) + 1)), AI 0, .sl 5 0 v30.length, .sl 6 0 v31.length]), (1, .row true 1 (v12.map vI)), (0, .box [AI 0, AI 0, .sl 3 0 0, .sl 4 0 0])] (by simp [List.take_of_length_le]) ?_
    obtain ⟨g1007, hF⟩ := need_some hF
    refine qf (.sl 1799 0 ((v30 ++ ([w64 (v29 + 1)] : List Int)).length)) [(1799, .row true 1 ((v30 ++ ([w64 (v29 + 1)] : List Int)).map vI)), (5, .dead), (1735, .dead), (1735, .row true 1 (([w64 (v29 + 1)] : List Int).map vI)), (2, .box [AI (w64 ((v12.length : Int) + 1)), AI 0, .sl 5 0 v30.length, .sl 903 0 ((v31 ++ ([(0, v1003, w64 (v29 + 1))] : List TArc)).length)]), (903, .row true 3 ((v31 ++ ([(0, v1003, w64 (v29 + 1))] : List TArc)).map eArc)), (6, .dead), (839, .dead), (839, .row true 3 (([(0, v1003, w64 (v29 + 1))] : List TArc).map eArc)), (6, .row true 3 (v31.map eArc)), (5, .row true 1 (v30.map vI)), (4, .row true 3 (([] : List Int).map vI)), (3, .row true 1 (([] : List Int).map vI)), (2, .box [AI (w64 ((v12.length : Int) + 1)), AI 0, .sl 5 0 v30.length, .sl 6 0 v31.length]), (1, .row true 1 (v12.map vI)), (0, .box [AI 0, AI 0, .sl 3 0 0, .sl 4 0 0])] (effT_app_l rfl (by simp) rfl rfl (by simp) rfl (by decide) g1007 rfl) ?_
    refine qp (.ptr 2 0 2) rfl ?_
    refine qf0 (.undef) [(2, .box [AI (w64 ((v12.length : Int) + 1)), AI 0, .sl 1799 0 ((v30 ++ ([w64 (v29 + 1)] : List Int)).length), .sl 903 0 ((v31 ++ ([(0, v1003, w64 (v29 + 1))] : List TArc)).length)]), (1799, .row true 1 ((v30 ++ ([w64 (v29 + 1)] : List Int)).map vI)), (5, .dead), (1735, .dead), (1735, .row true 1 (([w64 (v29 + 1)] : List Int).map vI)), (2, .box [AI (w64 ((v12.length : Int) + 1)), AI 0, .sl 5 0 v30.length, .sl 903 0 ((v31 ++ ([(0, v1003, w64 (v29 + 1))] : List TArc)).length)]), (903, .row true 3 ((v31 ++ ([(0, v1003, w64 (v29 + 1))] : List TArc)).map eArc)), (6, .dead), (839, .dead), (839, .row true 3 (([(0, v1003, w64 (v29 + 1))] : List TArc).map eArc)), (6, .row true 3 (v31.map eArc)), (5, .row true 1 (v30.map vI)), (4, .row true 3 (([] : List Int).map vI)), (3, .row true 1 (([] : List Int).map vI)), (2, .box [AI (w64 ((v12.length : Int) + 1)), AI 0, .sl 5 0 v30.length, .sl 6 0 v31.length]), (1, .row true 1 (v12.map vI)), (0, .box [AI 0, AI 0, .sl 3 0 0, .sl 4 0 0])] (by simp) ?_
    refine r_nil ?_
    refine blockQ_n ?_
    refine thenQ_n ?_
    refine w_reg 1991 2183 rfl rfl ?_
    refine qp (AI v29) rfl (qp (AI (w64 (v29 + 1))) rfl (qp (AI (w64 (v29 + 1))) rfl ?_))
    refine r_nil ?_
    refine thenQ_n ?_
    refine ar (l' := [(0, .val none (.ptr [.str v0.1, .sl 1 (v0.2.1.map vI), .sl 1 (v0.2.2.1.map vI), .int .i64 v0.2.2.2.1, .int .i64 v0.2.2.2.2.1, .sl 1 (v0.2.2.2.2.2.map (eL 1 vI))])), (6, .ptr 0 0 0), (7, .sl 1 0 v12.length), (9, .ptr 2 0 0), (10, AI (w64 (v29 + 1)))]) (L := [(6, .row true 3 ((v31 ++ ([(0, v1003, w64 (v29 + 1))] : List TArc)).map eArc)), (5, .row true 1 ((v30 ++ ([w64 (v29 + 1)] : List Int)).map vI)), (4, .row true 3 (([] : List Int).map vI)), (3, .row true 1 (([] : List Int).map vI)), (2, .box [AI (w64 ((v12.length : Int) + 1)), AI 0, .sl 5 0 (v30 ++ ([w64 (v29 + 1)] : List Int)).length, .sl 6 0 (v31 ++ ([(0, v1003, w64 (v29 + 1))] : List TArc)).length]), (1, .row true 1 (v12.map vI)), (0, .box [AI 0, AI 0, .sl 3 0 0, .sl 4 0 0])]) [0, 6, 7, 9, 10] [(903, 6), (1799, 5), (4, 4), (3, 3), (2, 2), (1, 1), (0, 0)] 7 ⟨_, by rfl, hF⟩
   ·
    refine w_skip ?_
    refine blockQ_n ?_
    refine thenQ_n ?_
    refine w_reg 1479 1671 rfl rfl ?_
    refine qp (AI v29) rfl (qp (AI (w64 (v29 + 1))) rfl (qp (AI (w64 (v29 + 1))) rfl ?_))
    refine r_nil ?_
    refine thenQ_n ?_
    refine ar (l' := [(0, .val none (.ptr [.str v0.1, .sl 1 (v0.2.1.map vI), .sl 1 (v0.2.2.1.map vI), .int .i64 v0.2.2.2.1, .int .i64 v0.2.2.2.2.1, .sl 1 (v0.2.2.2.2.2.map (eL 1 vI))])), (6, .ptr 0 0 0), (7, .sl 1 0 v12.length), (9, .ptr 2 0 0), (10, AI (w64 (v29 + 1)))]) (L := [(6, .row true 3 ((v31 ++ ([(0, v1003, w64 (v29 + 1))] : List TArc)).map eArc)), (5, .row true 1 (v30.map vI)), (4, .row true 3 (([] : List Int).map vI)), (3, .row true 1 (([] : List Int).map vI)), (2, .box [AI (w64 ((v12.length : Int) + 1)), AI 0, .sl 5 0 v30.length, .sl 6 0 (v31 ++ ([(0, v1003, w64 (v29 + 1))] : List TArc)).length]), (1, .row true 1 (v12.map vI)), (0, .box [AI 0, AI 0, .sl 3 0 0, .sl 4 0 0])]) [0, 6, 7, 9, 10] [(903, 6), (5, 5), (4, 4), (3, 3), (2, 2), (1, 1), (0, 0)] 7 ⟨_, by rfl, hF⟩
  ·
   refine w_exit ?_
   refine thenQ_e ?_
   refine thenQ_e ?_
   refine blockQ_e ?_
   refine thenQ_n ?_
   refine w_seq ?_
   refine ws 263 327 ?_
   refine qp (AI 0) rfl ?_
   refine r_nil ?_
   refine w_block ?_
   refine wr (l' := [(0, .val none (.ptr [.str v0.1, .sl 1 (v0.2.1.map vI), .sl 1 (v0.2.2.1.map vI), .int .i64 v0.2.2.2.1, .int .i64 v0.2.2.2.2.1, .sl 1 (v0.2.2.2.2.2.map (eL 1 vI))])), (6, .ptr 0 0 0), (7, .sl 1 0 v12.length), (9, .ptr 2 0 0), (11, AI 0)]) (L := [(6, .row true 3 (v31.map eArc)), (5, .row true 1 (v30.map vI)), (4, .row true 3 (([] : List Int).map vI)), (3, .row true 1 (([] : List Int).map vI)), (2, .box [AI (w64 ((v12.length : Int) + 1)), AI 0, .sl 5 0 v30.length, .sl 6 0 v31.length]), (1, .row true 1 (v12.map vI)), (0, .box [AI 0, AI 0, .sl 3 0 0, .sl 4 0 0])]) [0, 6, 7, 9, 11] [(6, 6), (5, 5), (4, 4), (3, 3), (2, 2), (1, 1), (0, 0)] 7 ?_
   refine w_loopF (F_spec_l07Of_l2 v0 v12 v30) (fun s : Int × (List TArc) => mkS [(0, .val none (.ptr [.str v0.1, .sl 1 (v0.2.1.map vI), .sl 1 (v0.2.2.1.map vI), .int .i64 v0.2.2.2.1, .int .i64 v0.2.2.2.2.1, .sl 1 (v0.2.2.2.2.2.map (eL 1 vI))])), (6, .ptr 0 0 0), (7, .sl 1 0 v12.length), (9, .ptr 2 0 0), (11, AI s.1)] (fo [(6, .row true 3 (s.2.map eArc)), (5, .row true 1 (v30.map vI)), (4, .row true 3 (([] : List Int).map vI)), (3, .row true 1 (([] : List Int).map vI)), (2, .box [AI (w64 ((v12.length : Int) + 1)), AI 0, .sl 5 0 v30.length, .sl 6 0 s.2.length]), (1, .row true 1 (v12.map vI)), (0, .box [AI 0, AI 0, .sl 3 0 0, .sl 4 0 0])]) 7) hF ?_
   rintro k4 ⟨v77, v78⟩ hF
   rw [F_spec_l07Of_l2] at hF
   try dsimp only
   refine w_seq ?_
   refine ws 7 263 ?_
   refine qp (AI v77) rfl (qp (.sl 1 0 v12.length) rfl (qp (AI (v12.length : Int)) rfl (qp (AB (decide (v77 < (v12.length : Int)))) rfl ?_)))
   refine r_nil ?_
   refine cF hF (fun hF => ?_) fun hF => ?_
   ·
    refine w_skip ?_
    refine thenQ_n ?_
    refine w_seq ?_
    refine w_block ?_
    refine ws 263 327 ?_
    refine qp (AI 0) rfl ?_
    refine r_nil ?_
    refine w_block ?_
    refine wr (l' := [(0, .val none (.ptr [.str v0.1, .sl 1 (v0.2.1.map vI), .sl 1 (v0.2.2.1.map vI), .int .i64 v0.2.2.2.1, .int .i64 v0.2.2.2.2.1, .sl 1 (v0.2.2.2.2.2.map (eL 1 vI))])), (6, .ptr 0 0 0), (7, .sl 1 0 v12.length), (9, .ptr 2 0 0), (11, AI v77), (12, AI 0)]) (L := [(6, .row true 3 (v78.map eArc)), (5, .row true 1 (v30.map vI)), (4, .row true 3 (([] : List Int).map vI)), (3, .row true 1 (([] : List Int).map vI)), (2, .box [AI (w64 ((v12.length : Int) + 1)), AI 0, .sl 5 0 v30.length, .sl 6 0 v78.length]), (1, .row true 1 (v12.map vI)), (0, .box [AI 0, AI 0, .sl 3 0 0, .sl 4 0 0])]) [0, 6, 7, 9, 11, 12] [(6, 6), (5, 5), (4, 4), (3, 3), (2, 2), (1, 1), (0, 0)] 7 ?_
    refine w_loopF (F_spec_l07Of_l3 v0 v12 v77 k4) (fun s : Int × (List TArc) => mkS [(0, .val none (.ptr [.str v0.1, .sl 1 (v0.2.1.map vI), .sl 1 (v0.2.2.1.map vI), .int .i64 v0.2.2.2.1, .int .i64 v0.2.2.2.2.1, .sl 1 (v0.2.2.2.2.2.map (eL 1 vI))])), (6, .ptr 0 0 0), (7, .sl 1 0 v12.length), (9, .ptr 2 0 0), (11, AI v77), (12, AI s.1)] (fo [(6, .row true 3 (s.2.map eArc)), (5, .row true 1 (v30.map vI)), (4, .row true 3 (([] : List Int).map vI)), (3, .row true 1 (([] : List Int).map vI)), (2, .box [AI (w64 ((v12.length : Int) + 1)), AI 0, .sl 5 0 v30.length, .sl 6 0 s.2.length]), (1, .row true 1 (v12.map vI)), (0, .box [AI 0, AI 0, .sl 3 0 0, .sl 4 0 0])]) 7) hF ?_
    rintro k5 ⟨v91, v92⟩ hF
    rw [F_spec_l07Of_l3] at hF
    try dsimp only
    refine w_seq ?_
    refine ws 7 263 ?_
    refine qp (AI v91) rfl (qp (.sl 1 0 v12.length) rfl (qp (AI (v12.length : Int)) rfl (qp (AB (decide (v91 < (v12.length : Int)))) rfl ?_)))
    refine r_nil ?_
    refine cF hF (fun hF => ?_) fun hF => ?_
    ·
     refine w_skip ?_
     refine thenQ_n ?_
     refine w_seq ?_
     refine w_block ?_
     refine ws 263 967 ?_
     refine qp (.val none (.ptr [.str v0.1, .sl 1 (v0.2.1.map vI), .sl 1 (v0.2.2.1.map vI), .int .i64 v0.2.2.2.1, .int .i64 v0.2.2.2.2.1, .sl 1 (v0.2.2.2.2.2.map (eL 1 vI))])) rfl (qp (.sl 1 0 v12.length) rfl (qp (AI v77) rfl ?_))
     obtain ⟨v1008, e1008, hF⟩ := bind_get hF
     refine qp (.ptr 1 v77.toNat 0) (ev_iad_r rfl (by simp) rfl rfl e1008) (qp (AI v1008) (ev_ld_r rfl rfl (ix_some e1008).2 rfl rfl) (qp (.sl 1 0 v12.length) rfl (qp (AI v91) rfl ?_)))
     obtain ⟨v1009, e1009, hF⟩ := bind_get hF
     refine qp (.ptr 1 v91.toNat 0) (ev_iad_r rfl (by simp) rfl rfl e1009) (qp (AI v1009) (ev_ld_r rfl rfl (ix_some e1009).2 rfl rfl) ?_)
     obtain ⟨v1010, e1010, hF⟩ := bind_get hF
     refine qc (AI v1010) [(6, .row true 3 (v92.map eArc)), (5, .row true 1 (v30.map vI)), (4, .row true 3 (([] : List Int).map vI)), (3, .row true 1 (([] : List Int).map vI)), (2, .box [AI (w64 ((v12.length : Int) + 1)), AI 0, .sl 5 0 v30.length, .sl 6 0 v92.length]), (1, .row true 1 (v12.map vI)), (0, .box [AI 0, AI 0, .sl 3 0 0, .sl 4 0 0])] false (con_spec_l05Reason e1010) c229_ok (by first | rfl | simp) rfl ?_
     refine qp (AB (decide (v1010 = (0 : Int)))) rfl ?_
     refine r_nil ?_
     refine cF hF (fun hF => ?_) fun hF => ?_
     ·
      refine w_reg 967 1927 rfl rfl ?_
      refine qp (.ptr 2 0 3) rfl (qp (.sl 6 0 v92.length) rfl (qp (AI v77) rfl (qp (AI (w64 (v77 + 1))) rfl (qp (.sl 1 0 v12.length) rfl (qp (AI v91) rfl ?_)))))
      obtain ⟨v1011, e1011, hF⟩ := bind_get hF
      refine qp (.ptr 1 v91.toNat 0) (ev_iad_r rfl (by simp) rfl rfl e1011) (qp (AI v1011) (ev_ld_r rfl rfl (ix_some e1011).2 rfl rfl) (qp (AI v91) rfl (qp (AI (w64 (v91 + 1))) rfl ?_)))
      refine qf (.agg [AI (w64 (v77 + 1)), AI v1011, AI (w64 (v91 + 1))]) [(6, .row true 3 (v92.map eArc)), (5, .row true 1 (v30.map vI)), (4, .row true 3 (([] : List Int).map vI)), (3, .row true 1 (([] : List Int).map vI)), (2, .box [AI (w64 ((v12.length : Int) + 1)), AI 0, .sl 5 0 v30.length, .sl 6 0 v92.length]), (1, .row true 1 (v12.map vI)), (0, .box [AI 0, AI 0, .sl 3 0 0, .sl 4 0 0])] (by simp) ?_
      refine qf (.sl 1671 0 (([(w64 (v77 + 1), v1011, w64 (v91 + 1))] : List TArc).length)) [(1671, .row true 3 (([(w64 (v77 + 1), v1011, w64 (v91 + 1))] : List TArc).map eArc)), (6, .row true 3 (v92.map eArc)), (5, .row true 1 (v30.map vI)), (4, .row true 3 (([] : List Int).map vI)), (3, .row true 1 (([] : List Int).map vI)), (2, .box [AI (w64 ((v12.length : Int) + 1)), AI 0, .sl 5 0 v30.length, .sl 6 0 v92.length]), (1, .row true 1 (v12.map vI)), (0, .box [AI 0, AI 0, .sl 3 0 0, .sl 4 0 0])] (by simp [List.take_of_length_le]) ?_
      obtain ⟨g1012, hF⟩ := need_some hF
      refine qf (.sl 1735 0 ((v92 ++ ([(w64 (v77 + 1), v1011, w64 (v91 + 1))] : List TArc)).length)) [(1735, .row true 3 ((v92 ++ ([(w64 (v77 + 1), v1011, w64 (v91 + 1))] : List TArc)).map eArc)), (6, .dead), (1671, .dead), (1671, .row true 3 (([(w64 (v77 + 1), v1011, w64 (v91 + 1))] : List TArc).map eArc)), (6, .row true 3 (v92.map eArc)), (5, .row true 1 (v30.map vI)), (4, .row true 3 (([] : List Int).map vI)), (3, .row true 1 (([] : List Int).map vI)), (2, .box [AI (w64 ((v12.length : Int) + 1)), AI 0, .sl 5 0 v30.length, .sl 6 0 v92.length]), (1, .row true 1 (v12.map vI)), (0, .box [AI 0, AI 0, .sl 3 0 0, .sl 4 0 0])] (effT_app_l rfl (by simp) rfl rfl (by simp) rfl (by decide) g1012 rfl) ?_
      refine qp (.ptr 2 0 3) rfl ?_
      refine qf0 (.undef) [(2, .box [AI (w64 ((v12.length : Int) + 1)), AI 0, .sl 5 0 v30.length, .sl 1735 0 ((v92 ++ ([(w64 (v77 + 1), v1011, w64 (v91 + 1))] : List TArc)).length)]), (1735, .row true 3 ((v92 ++ ([(w64 (v77 + 1), v1011, w64 (v91 + 1))] : List TArc)).map eArc)), (6, .dead), (1671, .dead), (1671, .row true 3 (([(w64 (v77 + 1), v1011, w64 (v91 + 1))] : List TArc).map eArc)), (6, .row true 3 (v92.map eArc)), (5, .row true 1 (v30.map vI)), (4, .row true 3 (([] : List Int).map vI)), (3, .row true 1 (([] : List Int).map vI)), (2, .box [AI (w64 ((v12.length : Int) + 1)), AI 0, .sl 5 0 v30.length, .sl 6 0 v92.length]), (1, .row true 1 (v12.map vI)), (0, .box [AI 0, AI 0, .sl 3 0 0, .sl 4 0 0])] (by simp) ?_
      refine r_nil ?_
      refine blockQ_n ?_
      refine thenQ_n ?_
      refine w_reg 1927 2119 rfl rfl ?_
      refine qp (AI v91) rfl (qp (AI (w64 (v91 + 1))) rfl (qp (AI (w64 (v91 + 1))) rfl ?_))
      refine r_nil ?_
      refine thenQ_n ?_
      refine ar (l' := [(0, .val none (.ptr [.str v0.1, .sl 1 (v0.2.1.map vI), .sl 1 (v0.2.2.1.map vI), .int .i64 v0.2.2.2.1, .int .i64 v0.2.2.2.2.1, .sl 1 (v0.2.2.2.2.2.map (eL 1 vI))])), (6, .ptr 0 0 0), (7, .sl 1 0 v12.length), (9, .ptr 2 0 0), (11, AI v77), (12, AI (w64 (v91 + 1)))]) (L := [(6, .row true 3 ((v92 ++ ([(w64 (v77 + 1), v1011, w64 (v91 + 1))] : List TArc)).map eArc)), (5, .row true 1 (v30.map vI)), (4, .row true 3 (([] : List Int).map vI)), (3, .row true 1 (([] : List Int).map vI)), (2, .box [AI (w64 ((v12.length : Int) + 1)), AI 0, .sl 5 0 v30.length, .sl 6 0 (v92 ++ ([(w64 (v77 + 1), v1011, w64 (v91 + 1))] : List TArc)).length]), (1, .row true 1 (v12.map vI)), (0, .box [AI 0, AI 0, .sl 3 0 0, .sl 4 0 0])]) [0, 6, 7, 9, 11, 12] [(1735, 6), (5, 5), (4, 4), (3, 3), (2, 2), (1, 1), (0, 0)] 7 ⟨_, by rfl, hF⟩
     ·
      refine w_skip ?_
      refine blockQ_n ?_
      refine thenQ_n ?_
      refine w_reg 967 1159 rfl rfl ?_
      refine qp (AI v91) rfl (qp (AI (w64 (v91 + 1))) rfl (qp (AI (w64 (v91 + 1))) rfl ?_))
      refine r_nil ?_
      refine thenQ_n ?_
      refine ar (l' := [(0, .val none (.ptr [.str v0.1, .sl 1 (v0.2.1.map vI), .sl 1 (v0.2.2.1.map vI), .int .i64 v0.2.2.2.1, .int .i64 v0.2.2.2.2.1, .sl 1 (v0.2.2.2.2.2.map (eL 1 vI))])), (6, .ptr 0 0 0), (7, .sl 1 0 v12.length), (9, .ptr 2 0 0), (11, AI v77), (12, AI (w64 (v91 + 1)))]) (L := [(6, .row true 3 (v92.map eArc)), (5, .row true 1 (v30.map vI)), (4, .row true 3 (([] : List Int).map vI)), (3, .row true 1 (([] : List Int).map vI)), (2, .box [AI (w64 ((v12.length : Int) + 1)), AI 0, .sl 5 0 v30.length, .sl 6 0 v92.length]), (1, .row true 1 (v12.map vI)), (0, .box [AI 0, AI 0, .sl 3 0 0, .sl 4 0 0])]) [0, 6, 7, 9, 11, 12] [(6, 6), (5, 5), (4, 4), (3, 3), (2, 2), (1, 1), (0, 0)] 7 ⟨_, by rfl, hF⟩
    ·
     refine w_exit ?_
     refine thenQ_e ?_
     refine thenQ_e ?_
     refine blockQ_e ?_
     refine blockQ_n ?_
     refine thenQ_n ?_
     refine w_reg 263 455 rfl rfl ?_
     refine qp (AI v77) rfl (qp (AI (w64 (v77 + 1))) rfl (qp (AI (w64 (v77 + 1))) rfl ?_))
     refine r_nil ?_
     refine thenQ_n ?_
     refine ar (l' := [(0, .val none (.ptr [.str v0.1, .sl 1 (v0.2.1.map vI), .sl 1 (v0.2.2.1.map vI), .int .i64 v0.2.2.2.1, .int .i64 v0.2.2.2.2.1, .sl 1 (v0.2.2.2.2.2.map (eL 1 vI))])), (6, .ptr 0 0 0), (7, .sl 1 0 v12.length), (9, .ptr 2 0 0), (11, AI (w64 (v77 + 1)))]) (L := [(6, .row true 3 (v92.map eArc)), (5, .row true 1 (v30.map vI)), (4, .row true 3 (([] : List Int).map vI)), (3, .row true 1 (([] : List Int).map vI)), (2, .box [AI (w64 ((v12.length : Int) + 1)), AI 0, .sl 5 0 v30.length, .sl 6 0 v92.length]), (1, .row true 1 (v12.map vI)), (0, .box [AI 0, AI 0, .sl 3 0 0, .sl 4 0 0])]) [0, 6, 7, 9, 11] [(6, 6), (5, 5), (4, 4), (3, 3), (2, 2), (1, 1), (0, 0)] 7 ⟨_, by rfl, hF⟩
   ·
    refine w_exit ?_
    refine thenQ_e ?_
    refine thenQ_e ?_
    refine blockQ_e ?_
    refine thenQ_n ?_
    refine ws 263 391 ?_
    refine qp (.agg [AI (w64 ((v12.length : Int) + 1)), AI 0, .sl 5 0 v30.length, .sl 6 0 v78.length]) rfl ?_
    refine qf0 (.undef) [(0, .box [AI (w64 ((v12.length : Int) + 1)), AI 0, .sl 5 0 v30.length, .sl 6 0 v78.length]), (6, .row true 3 (v78.map eArc)), (5, .row true 1 (v30.map vI)), (4, .row true 3 (([] : List Int).map vI)), (3, .row true 1 (([] : List Int).map vI)), (2, .box [AI (w64 ((v12.length : Int) + 1)), AI 0, .sl 5 0 v30.length, .sl 6 0 v78.length]), (1, .row true 1 (v12.map vI)), (0, .box [AI 0, AI 0, .sl 3 0 0, .sl 4 0 0])] (by simp) ?_
    refine r_nil ?_
    refine w_ret ?_
    cases hF
    exact eR

def c146 : MC := (.seq (.reg [rg 2 (.p true (.mv (.c (.bool false))))]) (.seq (.seq (.reg [rg 5 (.p false (.mv (.t 0))), rg 6 (.p false (.nck (.t 5))), rg 7 (.p false (.fad (.t 6) 0)), rg 8 (.p false (.ld (.t 7) 1 false)), rg 9 (.call false 93 [(.t 8), (.c (.int .i64 1)), (.c (.int .i64 32))]), rg 10 (.p false (.not (.t 9))), rg 11 (.p false (.mv (.t 10))), ⟨(some 12), (some (11, false)), (.p false (.mv (.t 0)))⟩, ⟨(some 13), (some (11, false)), (.p false (.nck (.t 12)))⟩, ⟨(some 14), (some (11, false)), (.p false (.fad (.t 13) 1))⟩, ⟨(some 15), (some (11, false)), (.p false (.ld (.t 14) 1 false))⟩, ⟨(some 16), (some (11, false)), (.p false (.mv (.t 0)))⟩, ⟨(some 17), (some (11, false)), (.p false (.nck (.t 16)))⟩, ⟨(some 18), (some (11, false)), (.p false (.fad (.t 17) 0))⟩, ⟨(some 19), (some (11, false)), (.p false (.ld (.t 18) 1 false))⟩, ⟨(some 20), (some (11, false)), (.p false (.bin .sub (.t 19) (.c (.int .i64 1))))⟩, ⟨(some 21), (some (11, false)), (.call false 93 [(.t 15), (.c (.int .i64 0)), (.t 20)])⟩, ⟨(some 22), (some (11, false)), (.p false (.not (.t 21)))⟩, rg 23 (.p false (.pick (.t 11) (.c (.bool true)) (.t 22))), rg 24 (.p false (.mv (.t 23))), ⟨(some 25), (some (24, false)), (.p false (.mv (.t 0)))⟩, ⟨(some 26), (some (24, false)), (.p false (.nck (.t 25)))⟩, ⟨(some 27), (some (24, false)), (.p false (.fad (.t 26) 2))⟩, ⟨(some 28), (some (24, false)), (.p false (.ld (.t 27) 1 false))⟩, ⟨(some 29), (some (24, false)), (.p false (.mv (.t 0)))⟩, ⟨(some 30), (some (24, false)), (.p false (.nck (.t 29)))⟩, ⟨(some 31), (some (24, false)), (.p false (.fad (.t 30) 0))⟩, ⟨(some 32), (some (24, false)), (.p false (.ld (.t 31) 1 false))⟩, ⟨(some 33), (some (24, false)), (.p false (.bin .sub (.t 32) (.c (.int .i64 1))))⟩, ⟨(some 34), (some (24, false)), (.call false 230 [(.t 28), (.c (.int .i64 0)), (.t 33)])⟩, ⟨(some 35), (some (24, false)), (.p false (.not (.t 34)))⟩, rg 36 (.p false (.pick (.t 24) (.c (.bool true)) (.t 35))), rg 37 (.p false (.mv (.t 36))), ⟨(some 38), (some (37, false)), (.p false (.mv (.t 0)))⟩, ⟨(some 39), (some (37, false)), (.p false (.nck (.t 38)))⟩, ⟨(some 40), (some (37, false)), (.p false (.fad (.t 39) 3))⟩, ⟨(some 41), (some (37, false)), (.p false (.ld (.t 40) 1 false))⟩, ⟨(some 42), (some (37, false)), (.p false (.len (.t 41)))⟩, ⟨(some 43), (some (37, false)), (.p false (.bin .gtr (.t 42) (.c (.int .i64 256))))⟩, rg 44 (.p false (.pick (.t 37) (.c (.bool true)) (.t 43)))]) (.cond (.t 44) (.seq (.reg [rg 2 (.p true (.mv (.c (.bool false))))]) .ret) .skip)) (.seq (.seq (.reg [rg 3 (.p true (.mv (.c (.int .i64 0))))]) (.block 0 (.loop (.seq (.seq (.reg [mvt 45 3, mvt 46 0, rg 47 (.p true (.nck (.t 46))), rg 48 (.p true (.fad (.t 47) 3)), rg 49 (.p true (.ld (.t 48) 1 false)), rg 50 (.p true (.len (.t 49))), rg 51 (.p true (.bin .lss (.t 45) (.t 50)))]) (.cond (.t 51) .skip (.exit 0))) (.seq (.block 1 (.seq (.reg [mvt 54 0, rg 55 (.p true (.nck (.t 54))), rg 56 (.p true (.fad (.t 55) 3)), rg 57 (.p true (.ld (.t 56) 1 false)), mvt 58 3, rg 59 (.p true (.iad (.t 57) (.t 58) 3)), rg 60 (.p true (.ld (.t 59) 3 true)), rg 4 (.f (.alloc [((.int .i64 0), (0, false)), ((.int .i64 0), (0, false)), ((.int .i64 0), (0, false))])), ⟨none, none, (.f (.st (.t 4) (.t 60) 3))⟩]) (.seq (.seq (.reg [rg 61 (.p false (.fad (.t 4) 0)), rg 62 (.p false (.ld (.t 61) 1 false)), rg 63 (.p false (.mv (.t 0))), rg 64 (.p false (.nck (.t 63))), rg 65 (.p false (.fad (.t 64) 0)), rg 66 (.p false (.ld (.t 65) 1 false)), rg 67 (.p false (.bin .sub (.t 66) (.c (.int .i64 1)))), rg 68 (.call false 93 [(.t 62), (.c (.int .i64 0)), (.t 67)]), rg 69 (.p false (.not (.t 68))), rg 70 (.p false (.mv (.t 69))), ⟨(some 71), (some (70, false)), (.p false (.fad (.t 4) 1))⟩, ⟨(some 72), (some (70, false)), (.p false (.ld (.t 71) 1 false))⟩, ⟨(some 73), (some (70, false)), (.call false 142 [(.t 72)])⟩, ⟨(some 74), (some (70, false)), (.p false (.not (.t 73)))⟩, rg 75 (.p false (.pick (.t 70) (.c (.bool true)) (.t 74))), rg 76 (.p false (.mv (.t 75))), ⟨(some 77), (some (76, false)), (.p false (.fad (.t 4) 2))⟩, ⟨(some 78), (some (76, false)), (.p false (.ld (.t 77) 1 false))⟩, ⟨(some 79), (some (76, false)), (.p false (.mv (.t 0)))⟩, ⟨(some 80), (some (76, false)), (.p false (.nck (.t 79)))⟩, ⟨(some 81), (some (76, false)), (.p false (.fad (.t 80) 0))⟩, ⟨(some 82), (some (76, false)), (.p false (.ld (.t 81) 1 false))⟩, ⟨(some 83), (some (76, false)), (.p false (.bin .sub (.t 82) (.c (.int .i64 1))))⟩, ⟨(some 84), (some (76, false)), (.call false 93 [(.t 78), (.c (.int .i64 0)), (.t 83)])⟩, ⟨(some 85), (some (76, false)), (.p false (.not (.t 84)))⟩, rg 86 (.p false (.pick (.t 76) (.c (.bool true)) (.t 85)))]) (.cond (.t 86) (.seq (.reg [rg 2 (.p true (.mv (.c (.bool false))))]) .ret) .skip)) (.seq (.reg [rg 87 (.p false (.mv (.t 3))), rg 88 (.p false (.bin .gtr (.t 87) (.c (.int .i64 0)))), rg 89 (.p false (.mv (.t 88))), ⟨(some 90), (some (89, true)), (.p false (.mv (.t 0)))⟩, ⟨(some 91), (some (89, true)), (.p false (.nck (.t 90)))⟩, ⟨(some 92), (some (89, true)), (.p false (.fad (.t 91) 3))⟩, ⟨(some 93), (some (89, true)), (.p false (.ld (.t 92) 1 false))⟩, ⟨(some 94), (some (89, true)), (.p false (.mv (.t 3)))⟩, ⟨(some 95), (some (89, true)), (.p false (.bin .sub (.t 94) (.c (.int .i64 1))))⟩, ⟨(some 96), (some (89, true)), (.p false (.iad (.t 93) (.t 95) 3))⟩, ⟨(some 97), (some (89, true)), (.p false (.fad (.t 96) 0))⟩, ⟨(some 98), (some (89, true)), (.p false (.ld (.t 97) 1 false))⟩, ⟨(some 99), (some (89, true)), (.p false (.fad (.t 4) 0))⟩, ⟨(some 100), (some (89, true)), (.p false (.ld (.t 99) 1 false))⟩, ⟨(some 101), (some (89, true)), (.p false (.bin .gtr (.t 98) (.t 100)))⟩, ⟨(some 102), (some (89, true)), (.p false (.mv (.t 101)))⟩, ⟨(some 103), (some (102, false)), (.p false (.mv (.t 0)))⟩, ⟨(some 104), (some (102, false)), (.p false (.nck (.t 103)))⟩, ⟨(some 105), (some (102, false)), (.p false (.fad (.t 104) 3))⟩, ⟨(some 106), (some (102, false)), (.p false (.ld (.t 105) 1 false))⟩, ⟨(some 107), (some (102, false)), (.p false (.mv (.t 3)))⟩, ⟨(some 108), (some (102, false)), (.p false (.bin .sub (.t 107) (.c (.int .i64 1))))⟩, ⟨(some 109), (some (102, false)), (.p false (.iad (.t 106) (.t 108) 3))⟩, ⟨(some 110), (some (102, false)), (.p false (.fad (.t 109) 0))⟩, ⟨(some 111), (some (102, false)), (.p false (.ld (.t 110) 1 false))⟩, ⟨(some 112), (some (102, false)), (.p false (.fad (.t 4) 0))⟩, ⟨(some 113), (some (102, false)), (.p false (.ld (.t 112) 1 false))⟩, ⟨(some 114), (some (102, false)), (.p false (.bin .eql (.t 111) (.t 113)))⟩, ⟨(some 115), (some (102, false)), (.p false (.mv (.t 114)))⟩, ⟨(some 116), (some (115, true)), (.p false (.mv (.t 0)))⟩, ⟨(some 117), (some (115, true)), (.p false (.nck (.t 116)))⟩, ⟨(some 118), (some (115, true)), (.p false (.fad (.t 117) 3))⟩, ⟨(some 119), (some (115, true)), (.p false (.ld (.t 118) 1 false))⟩, ⟨(some 120), (some (115, true)), (.p false (.mv (.t 3)))⟩, ⟨(some 121), (some (115, true)), (.p false (.bin .sub (.t 120) (.c (.int .i64 1))))⟩, ⟨(some 122), (some (115, true)), (.p false (.iad (.t 119) (.t 121) 3))⟩, ⟨(some 123), (some (115, true)), (.p false (.fad (.t 122) 1))⟩, ⟨(some 124), (some (115, true)), (.p false (.ld (.t 123) 1 false))⟩, ⟨(some 125), (some (115, true)), (.p false (.fad (.t 4) 1))⟩, ⟨(some 126), (some (115, true)), (.p false (.ld (.t 125) 1 false))⟩, ⟨(some 127), (some (115, true)), (.p false (.bin .geq (.t 124) (.t 126)))⟩, ⟨(some 128), (some (102, false)), (.p false (.pick (.t 115) (.t 127) (.c (.bool false))))⟩, ⟨(some 129), (some (89, true)), (.p false (.pick (.t 102) (.c (.bool true)) (.t 128)))⟩, rg 130 (.p false (.pick (.t 89) (.t 129) (.c (.bool false))))]) (.cond (.t 130) (.seq (.reg [rg 2 (.p true (.mv (.c (.bool false))))]) .ret) .skip))))) (.reg [mvt 52 3, rg 53 (.p true (.bin .add (.t 52) (.c (.int .i64 1)))), mvt 3 53])))))) (.seq (.reg [rg 2 (.p true (.mv (.c (.bool true))))]) .ret))))
theorem c146_is : compFn Try.prog 146 = some (c146, [(.tmp 2)]) := by kernel_rfl
theorem c146_ok : okFn Try.prog 146 = true := by kernel_rfl

noncomputable def F_spec_l07Ok_l0 (v0 : TGrammar) (k1 : Int → Option (Bool)) : Int → Option (Bool)
 | v1024 => (bif (decide (v1024 < (v0.2.2.2.length : Int))) then ((ix v0.2.2.2 v1024).bind fun v1025 => ((F_spec_l00In v1025.1 0 (w64 (v0.1 - 1))).bind fun v1029 => (bif (!v1029) then some false
 else ((F_spec_l03Pitch v1025.2.1).bind fun v1030 => (bif (!v1030) then some false
 else ((F_spec_l00In v1025.2.2 0 (w64 (v0.1 - 1))).bind fun v1031 => (bif (!v1031) then some false
 else (bif (decide ((0 : Int) < v1024)) then ((ix v0.2.2.2 (w64 (v1024 - 1))).bind fun v1032 => (bif (decide (v1025.1 < v1032.1)) then some false
 else ((ix v0.2.2.2 (w64 (v1024 - 1))).bind fun v1033 => (bif (decide (v1033.1 = v1025.1)) then ((ix v0.2.2.2 (w64 (v1024 - 1))).bind fun v1034 => (bif (decide (v1025.2.1 ≤ v1034.2.1)) then some false
 else k1 (w64 (v1024 + 1))))
 else k1 (w64 (v1024 + 1))))))
 else k1 (w64 (v1024 + 1))))))))))
 else some true)
noncomputable def F_spec_l07Ok (v0 : TGrammar) : Option (Bool) :=
 ((F_spec_l00In v0.1 1 32).bind fun v1000 => (bif (!v1000) then some false
 else ((F_spec_l00In v0.2.1 0 (w64 (v0.1 - 1))).bind fun v1001 => (bif (!v1001) then some false
 else ((F_spec_l00Rises v0.2.2.1 0 (w64 (v0.1 - 1))).bind fun v1002 => (bif (!v1002) then some false
 else (bif (decide ((256 : Int) < (v0.2.2.2.length : Int))) then some false
 else loop (F_spec_l07Ok_l0 v0) 0)))))))
@[simp] def res_spec_l07Ok (r : Bool) : RV := .one (.one (.val (.bool r)))
theorem con_spec_l07Ok {v0 : TGrammar} {r : Bool} (hF : F_spec_l07Ok v0 = some r) : Con Try.prog 146 [.ptr [.int .i64 v0.1, .int .i64 v0.2.1, .sl 1 (v0.2.2.1.map vI), .sl 3 (v0.2.2.2.map eArc)]] (res_spec_l07Ok r) := by
 unfold F_spec_l07Ok at hF
 refine con_of c146_is fun N => ?_
 refine ws 0 64 ?_
 refine qp (AB false) rfl ?_
 refine r_nil ?_
 refine w_seq ?_
 refine ws 64 2624 ?_
 refine qp (.val none (.ptr [.int .i64 v0.1, .int .i64 v0.2.1, .sl 1 (v0.2.2.1.map vI), .sl 3 (v0.2.2.2.map eArc)])) rfl (qp (.val none (.ptr [.int .i64 v0.1, .int .i64 v0.2.1, .sl 1 (v0.2.2.1.map vI), .sl 3 (v0.2.2.2.map eArc)])) rfl (qp (.val none (.ptr [.int .i64 v0.1, .int .i64 v0.2.1, .sl 1 (v0.2.2.1.map vI), .sl 3 (v0.2.2.2.map eArc)])) rfl (qp (AI v0.1) rfl ?_)))
 obtain ⟨v1000, e1000, hF⟩ := bind_get hF
 refine qc (AB v1000) [] false (con_spec_l00In e1000) c93_ok (by first | rfl | simp) rfl ?_
 refine qp (AB (!v1000)) rfl (qp (AB (!v1000)) rfl ?_)
 refine q_case 11 hF rfl (fun hF => ?_) (fun hF => ?_)
 ·
  refine qn rfl (qn rfl (qn rfl (qn rfl (qn rfl (qn rfl (qn rfl (qn rfl ?_)))))))
  refine qn rfl (qn rfl (qn rfl (qp (AB true) rfl (qp (AB true) rfl (qn rfl (qn rfl (qn rfl ?_)))))))
  refine qn rfl (qn rfl (qn rfl (qn rfl (qn rfl (qn rfl (qn rfl (qn rfl ?_)))))))
  refine qp (AB true) rfl (qp (AB true) rfl (qn rfl (qn rfl (qn rfl (qn rfl (qn rfl (qn rfl ?_)))))))
  refine qp (AB true) rfl ?_
  refine r_nil ?_
  refine w_true rfl ?_
  refine ws 2624 2688 ?_
  refine qp (AB false) rfl ?_
  refine r_nil ?_
  refine w_ret ?_
  refine thenQ_r ?_
  cases hF
  exact eR
 ·
  refine qg (.val none (.ptr [.int .i64 v0.1, .int .i64 v0.2.1, .sl 1 (v0.2.2.1.map vI), .sl 3 (v0.2.2.2.map eArc)])) rfl rfl (qg (.val none (.ptr [.int .i64 v0.1, .int .i64 v0.2.1, .sl 1 (v0.2.2.1.map vI), .sl 3 (v0.2.2.2.map eArc)])) rfl rfl (qg (.val none (.ptr [.int .i64 v0.2.1, .sl 1 (v0.2.2.1.map vI), .sl 3 (v0.2.2.2.map eArc)])) rfl rfl (qg (AI v0.2.1) rfl rfl (qg (.val none (.ptr [.int .i64 v0.1, .int .i64 v0.2.1, .sl 1 (v0.2.2.1.map vI), .sl 3 (v0.2.2.2.map eArc)])) rfl rfl (qg (.val none (.ptr [.int .i64 v0.1, .int .i64 v0.2.1, .sl 1 (v0.2.2.1.map vI), .sl 3 (v0.2.2.2.map eArc)])) rfl rfl (qg (.val none (.ptr [.int .i64 v0.1, .int .i64 v0.2.1, .sl 1 (v0.2.2.1.map vI), .sl 3 (v0.2.2.2.map eArc)])) rfl rfl (qg (AI v0.1) rfl rfl ?_)))))))
  refine qg (AI (w64 (v0.1 - 1))) rfl rfl ?_
  obtain ⟨v1001, e1001, hF⟩ := bind_get hF
  refine qcg (AB v1001) [] false rfl (con_spec_l00In e1001) c93_ok (by first | rfl | simp) rfl ?_
  refine qg (AB (!v1001)) rfl rfl (qp (AB (!v1001)) rfl (qp (AB (!v1001)) rfl ?_))
  refine q_case 24 hF rfl (fun hF => ?_) (fun hF => ?_)
  ·
   refine qn rfl (qn rfl (qn rfl (qn rfl (qn rfl (qn rfl (qn rfl (qn rfl ?_)))))))
   refine qn rfl (qn rfl (qn rfl (qp (AB true) rfl (qp (AB true) rfl (qn rfl (qn rfl (qn rfl ?_)))))))
   refine qn rfl (qn rfl (qn rfl (qp (AB true) rfl ?_)))
   refine r_nil ?_
   refine w_true rfl ?_
   refine ws 2624 2688 ?_
   refine qp (AB false) rfl ?_
   refine r_nil ?_
   refine w_ret ?_
   refine thenQ_r ?_
   cases hF
   exact eR
  ·
   refine qg (.val none (.ptr [.int .i64 v0.1, .int .i64 v0.2.1, .sl 1 (v0.2.2.1.map vI), .sl 3 (v0.2.2.2.map eArc)])) rfl rfl (qg (.val none (.ptr [.int .i64 v0.1, .int .i64 v0.2.1, .sl 1 (v0.2.2.1.map vI), .sl 3 (v0.2.2.2.map eArc)])) rfl rfl (qg (.val none (.ptr [.sl 1 (v0.2.2.1.map vI), .sl 3 (v0.2.2.2.map eArc)])) rfl rfl (qg (AL 1 (v0.2.2.1.map vI)) rfl rfl (qg (.val none (.ptr [.int .i64 v0.1, .int .i64 v0.2.1, .sl 1 (v0.2.2.1.map vI), .sl 3 (v0.2.2.2.map eArc)])) rfl rfl (qg (.val none (.ptr [.int .i64 v0.1, .int .i64 v0.2.1, .sl 1 (v0.2.2.1.map vI), .sl 3 (v0.2.2.2.map eArc)])) rfl rfl (qg (.val none (.ptr [.int .i64 v0.1, .int .i64 v0.2.1, .sl 1 (v0.2.2.1.map vI), .sl 3 (v0.2.2.2.map eArc)])) rfl rfl (qg (AI v0.1) rfl rfl ?_)))))))
   refine qg (AI (w64 (v0.1 - 1))) rfl rfl ?_
   obtain ⟨v1002, e1002, hF⟩ := bind_get hF
   refine qcg (AB v1002) [] false rfl (con_spec_l00Rises e1002) c230_ok (by first | rfl | simp) rfl ?_
   refine qg (AB (!v1002)) rfl rfl (qp (AB (!v1002)) rfl (qp (AB (!v1002)) rfl ?_))
   refine q_case 37 hF rfl (fun hF => ?_) (fun hF => ?_)
   ·
    refine qn rfl (qn rfl (qn rfl (qn rfl (qn rfl (qn rfl (qp (AB true) rfl ?_))))))
    refine r_nil ?_
    refine w_true rfl ?_
    refine ws 2624 2688 ?_
    refine qp (AB false) rfl ?_
    refine r_nil ?_
    refine w_ret ?_
    refine thenQ_r ?_
    cases hF
    exact eR
   ·
    refine qg (.val none (.ptr [.int .i64 v0.1, .int .i64 v0.2.1, .sl 1 (v0.2.2.1.map vI), .sl 3 (v0.2.2.2.map eArc)])) rfl rfl (qg (.val none (.ptr [.int .i64 v0.1, .int .i64 v0.2.1, .sl 1 (v0.2.2.1.map vI), .sl 3 (v0.2.2.2.map eArc)])) rfl rfl (qg (.val none (.ptr [.sl 3 (v0.2.2.2.map eArc)])) rfl rfl (qg (AL 3 (v0.2.2.2.map eArc)) rfl rfl (qg (AI (v0.2.2.2.length : Int)) rfl (ev_len_n rfl) (qg (AB (decide ((256 : Int) < (v0.2.2.2.length : Int)))) rfl rfl (qp (AB (decide ((256 : Int) < (v0.2.2.2.length : Int)))) rfl ?_))))))
    refine r_nil ?_
    refine cF hF (fun hF => ?_) fun hF => ?_
    ·
     refine ws 2624 2688 ?_
     refine qp (AB false) rfl ?_
     refine r_nil ?_
     refine w_ret ?_
     refine thenQ_r ?_
     cases hF
     exact eR
    ·
     refine w_skip ?_
     refine thenQ_n ?_
     refine w_seq ?_
     refine ws 2624 2688 ?_
     refine qp (AI 0) rfl ?_
     refine r_nil ?_
     refine w_block ?_
     refine wr (l' := [(0, .val none (.ptr [.int .i64 v0.1, .int .i64 v0.2.1, .sl 1 (v0.2.2.1.map vI), .sl 3 (v0.2.2.2.map eArc)])), (3, AI 0)]) (L := []) [0, 3] [] 1 ?_
     refine w_loopF (F_spec_l07Ok_l0 v0) (fun s : Int => mkS [(0, .val none (.ptr [.int .i64 v0.1, .int .i64 v0.2.1, .sl 1 (v0.2.2.1.map vI), .sl 3 (v0.2.2.2.map eArc)])), (3, AI s)] (fo []) 1) hF ?_
     rintro k1 v1024 hF
     rw [F_spec_l07Ok_l0] at hF
     try dsimp only
     refine w_seq ?_
     refine ws 1 449 ?_
     refine qp (AI v1024) rfl (qp (.val none (.ptr [.int .i64 v0.1, .int .i64 v0.2.1, .sl 1 (v0.2.2.1.map vI), .sl 3 (v0.2.2.2.map eArc)])) rfl (qp (.val none (.ptr [.int .i64 v0.1, .int .i64 v0.2.1, .sl 1 (v0.2.2.1.map vI), .sl 3 (v0.2.2.2.map eArc)])) rfl (qp (.val none (.ptr [.sl 3 (v0.2.2.2.map eArc)])) rfl (qp (AL 3 (v0.2.2.2.map eArc)) rfl (qp (AI (v0.2.2.2.length : Int)) (ev_len_n rfl) (qp (AB (decide (v1024 < (v0.2.2.2.length : Int)))) rfl ?_))))))
     refine r_nil ?_
     refine cF hF (fun hF => ?_) fun hF => ?_
     ·
      refine w_skip ?_
      refine thenQ_n ?_
      refine w_seq ?_
      refine w_block ?_
      refine ws 449 1025 ?_
      refine qp (.val none (.ptr [.int .i64 v0.1, .int .i64 v0.2.1, .sl 1 (v0.2.2.1.map vI), .sl 3 (v0.2.2.2.map eArc)])) rfl (qp (.val none (.ptr [.int .i64 v0.1, .int .i64 v0.2.1, .sl 1 (v0.2.2.1.map vI), .sl 3 (v0.2.2.2.map eArc)])) rfl (qp (.val none (.ptr [.sl 3 (v0.2.2.2.map eArc)])) rfl (qp (AL 3 (v0.2.2.2.map eArc)) rfl (qp (AI v1024) rfl ?_))))
      obtain ⟨v1025, e1025, hF⟩ := bind_get hF
      refine qp (.val none (.ptr [.int .i64 v1025.1, .int .i64 v1025.2.1, .int .i64 v1025.2.2])) (ev_iad_n rfl rfl e1025 rfl) (qp (.val none (eArc v1025)) rfl ?_)
      refine qf (.ptr 897 0 0) [(897, .box [AI 0, AI 0, AI 0])] (by simp) ?_
      refine qf0 (.undef) [(897, .box [AI v1025.1, AI v1025.2.1, AI v1025.2.2]), (897, .box [AI 0, AI 0, AI 0])] (by simp) ?_
      refine r_nil ?_
      refine w_seq ?_
      refine ws 1025 2689 ?_
      refine qp (.ptr 897 0 0) rfl (qp (AI v1025.1) rfl (qp (.val none (.ptr [.int .i64 v0.1, .int .i64 v0.2.1, .sl 1 (v0.2.2.1.map vI), .sl 3 (v0.2.2.2.map eArc)])) rfl (qp (.val none (.ptr [.int .i64 v0.1, .int .i64 v0.2.1, .sl 1 (v0.2.2.1.map vI), .sl 3 (v0.2.2.2.map eArc)])) rfl (qp (.val none (.ptr [.int .i64 v0.1, .int .i64 v0.2.1, .sl 1 (v0.2.2.1.map vI), .sl 3 (v0.2.2.2.map eArc)])) rfl (qp (AI v0.1) rfl (qp (AI (w64 (v0.1 - 1))) rfl ?_))))))
      obtain ⟨v1029, e1029, hF⟩ := bind_get hF
      refine qc (AB v1029) [(897, .box [AI v1025.1, AI v1025.2.1, AI v1025.2.2]), (897, .box [AI 0, AI 0, AI 0])] false (con_spec_l00In e1029) c93_ok (by first | rfl | simp) rfl ?_
      refine qp (AB (!v1029)) rfl (qp (AB (!v1029)) rfl ?_)
      refine q_case 70 hF rfl (fun hF => ?_) (fun hF => ?_)
      ·
       refine qn rfl (qn rfl (qn rfl (qn rfl (qp (AB true) rfl (qp (AB true) rfl (qn rfl (qn rfl ?_)))))))
       refine qn rfl (qn rfl (qn rfl (qn rfl (qn rfl (qn rfl (qn rfl (qp (AB true) rfl ?_)))))))
       refine r_nil ?_
       refine w_true rfl ?_
       refine ws 2689 2753 ?_
       refine qp (AB false) rfl ?_
       refine r_nil ?_
       refine w_ret ?_
       refine thenQ_r ?_
       refine blockQ_r ?_
       refine thenQ_r ?_
       refine thenQ_r ?_
       refine blockQ_r ?_
       refine thenQ_r ?_
       cases hF
       exact eR
      ·
       refine qg (.ptr 897 0 1) rfl rfl (qg (AI v1025.2.1) rfl rfl ?_)
       obtain ⟨v1030, e1030, hF⟩ := bind_get hF
       refine qcg (AB v1030) [(897, .box [AI v1025.1, AI v1025.2.1, AI v1025.2.2]), (897, .box [AI 0, AI 0, AI 0])] false rfl (con_spec_l03Pitch e1030) c142_ok (by first | rfl | simp) rfl ?_
       refine qg (AB (!v1030)) rfl rfl (qp (AB (!v1030)) rfl (qp (AB (!v1030)) rfl ?_))
       refine q_case 76 hF rfl (fun hF => ?_) (fun hF => ?_)
       ·
        refine qn rfl (qn rfl (qn rfl (qn rfl (qn rfl (qn rfl (qn rfl (qn rfl ?_)))))))
        refine qn rfl (qp (AB true) rfl ?_)
        refine r_nil ?_
        refine w_true rfl ?_
        refine ws 2689 2753 ?_
        refine qp (AB false) rfl ?_
        refine r_nil ?_
        refine w_ret ?_
        refine thenQ_r ?_
        refine blockQ_r ?_
        refine thenQ_r ?_
        refine thenQ_r ?_
        refine blockQ_r ?_
        refine thenQ_r ?_
        cases hF
        exact eR
       ·
        refine qg (.ptr 897 0 2) rfl rfl (qg (AI v1025.2.2) rfl rfl (qg (.val none (.ptr [.int .i64 v0.1, .int .i64 v0.2.1, .sl 1 (v0.2.2.1.map vI), .sl 3 (v0.2.2.2.map eArc)])) rfl rfl (qg (.val none (.ptr [.int .i64 v0.1, .int .i64 v0.2.1, .sl 1 (v0.2.2.1.map vI), .sl 3 (v0.2.2.2.map eArc)])) rfl rfl (qg (.val none (.ptr [.int .i64 v0.1, .int .i64 v0.2.1, .sl 1 (v0.2.2.1.map vI), .sl 3 (v0.2.2.2.map eArc)])) rfl rfl (qg (AI v0.1) rfl rfl (qg (AI (w64 (v0.1 - 1))) rfl rfl ?_))))))
        obtain ⟨v1031, e1031, hF⟩ := bind_get hF
        refine qcg (AB v1031) [(897, .box [AI v1025.1, AI v1025.2.1, AI v1025.2.2]), (897, .box [AI 0, AI 0, AI 0])] false rfl (con_spec_l00In e1031) c93_ok (by first | rfl | simp) rfl ?_
        refine qg (AB (!v1031)) rfl rfl (qp (AB (!v1031)) rfl ?_)
        refine r_nil ?_
        refine cF hF (fun hF => ?_) fun hF => ?_
        ·
         refine ws 2689 2753 ?_
         refine qp (AB false) rfl ?_
         refine r_nil ?_
         refine w_ret ?_
         refine thenQ_r ?_
         refine blockQ_r ?_
         refine thenQ_r ?_
         refine thenQ_r ?_
         refine blockQ_r ?_
         refine thenQ_r ?_
         cases hF
         exact eR
        ·
         refine w_skip ?_
         refine thenQ_n ?_
         refine ws 2689 5505 ?_
         refine qp (AI v1024) rfl (qp (AB (decide ((0 : Int) < v1024))) rfl (qp (AB (decide ((0 : Int) < v1024))) rfl ?_))
         refine q_case 89 hF rfl (fun hF => ?_) (fun hF => ?_)
         ·
          refine qg (.val none (.ptr [.int .i64 v0.1, .int .i64 v0.2.1, .sl 1 (v0.2.2.1.map vI), .sl 3 (v0.2.2.2.map eArc)])) rfl rfl (qg (.val none (.ptr [.int .i64 v0.1, .int .i64 v0.2.1, .sl 1 (v0.2.2.1.map vI), .sl 3 (v0.2.2.2.map eArc)])) rfl rfl (qg (.val none (.ptr [.sl 3 (v0.2.2.2.map eArc)])) rfl rfl (qg (AL 3 (v0.2.2.2.map eArc)) rfl rfl (qg (AI v1024) rfl rfl (qg (AI (w64 (v1024 - 1))) rfl rfl ?_)))))
          obtain ⟨v1032, e1032, hF⟩ := bind_get hF
          refine qg (.val none (.ptr [.int .i64 v1032.1, .int .i64 v1032.2.1, .int .i64 v1032.2.2])) rfl (ev_iad_n rfl rfl e1032 rfl) (qg (.val none (.ptr [.int .i64 v1032.1, .int .i64 v1032.2.1, .int .i64 v1032.2.2])) rfl rfl (qg (AI v1032.1) rfl rfl (qg (.ptr 897 0 0) rfl rfl (qg (AI v1025.1) rfl rfl (qg (AB (decide (v1025.1 < v1032.1))) rfl rfl (qg (AB (decide (v1025.1 < v1032.1))) rfl rfl ?_))))))
          refine q_case 102 hF rfl (fun hF => ?_) (fun hF => ?_)
          ·
           refine qn rfl (qn rfl (qn rfl (qn rfl (qn rfl (qn rfl (qn rfl (qn rfl ?_)))))))
           refine qn rfl (qn rfl (qn rfl (qn rfl (qn rfl (qu rfl (qu rfl (qu rfl ?_)))))))
           refine qu rfl (qu rfl (qu rfl (qu rfl (qu rfl (qu rfl (qu rfl (qu rfl ?_)))))))
           refine qu rfl (qn rfl (qg (AB true) rfl rfl (qp (AB true) rfl ?_)))
           refine r_nil ?_
           refine w_true rfl ?_
           refine ws 5505 5569 ?_
           refine qp (AB false) rfl ?_
           refine r_nil ?_
           refine w_ret ?_
           refine blockQ_r ?_
           refine thenQ_r ?_
           refine thenQ_r ?_
           refine blockQ_r ?_
           refine thenQ_r ?_
           cases hF
           exact eR
          ·
           refine qg (.val none (.ptr [.int .i64 v0.1, .int .i64 v0.2.1, .sl 1 (v0.2.2.1.map vI), .sl 3 (v0.2.2.2.map eArc)])) rfl rfl (qg (.val none (.ptr [.int .i64 v0.1, .int .i64 v0.2.1, .sl 1 (v0.2.2.1.map vI), .sl 3 (v0.2.2.2.map eArc)])) rfl rfl (qg (.val none (.ptr [.sl 3 (v0.2.2.2.map eArc)])) rfl rfl (qg (AL 3 (v0.2.2.2.map eArc)) rfl rfl (qg (AI v1024) rfl rfl (qg (AI (w64 (v1024 - 1))) rfl rfl ?_)))))
           obtain ⟨v1033, e1033, hF⟩ := bind_get hF
           refine qg (.val none (.ptr [.int .i64 v1033.1, .int .i64 v1033.2.1, .int .i64 v1033.2.2])) rfl (ev_iad_n rfl rfl e1033 rfl) (qg (.val none (.ptr [.int .i64 v1033.1, .int .i64 v1033.2.1, .int .i64 v1033.2.2])) rfl rfl (qg (AI v1033.1) rfl rfl (qg (.ptr 897 0 0) rfl rfl (qg (AI v1025.1) rfl rfl (qg (AB (decide (v1033.1 = v1025.1))) rfl rfl (qg (AB (decide (v1033.1 = v1025.1))) rfl rfl ?_))))))
           refine q_case 115 hF rfl (fun hF => ?_) (fun hF => ?_)
           ·
            refine qg (.val none (.ptr [.int .i64 v0.1, .int .i64 v0.2.1, .sl 1 (v0.2.2.1.map vI), .sl 3 (v0.2.2.2.map eArc)])) rfl rfl (qg (.val none (.ptr [.int .i64 v0.1, .int .i64 v0.2.1, .sl 1 (v0.2.2.1.map vI), .sl 3 (v0.2.2.2.map eArc)])) rfl rfl (qg (.val none (.ptr [.sl 3 (v0.2.2.2.map eArc)])) rfl rfl (qg (AL 3 (v0.2.2.2.map eArc)) rfl rfl (qg (AI v1024) rfl rfl (qg (AI (w64 (v1024 - 1))) rfl rfl ?_)))))
            obtain ⟨v1034, e1034, hF⟩ := bind_get hF
            refine qg (.val none (.ptr [.int .i64 v1034.1, .int .i64 v1034.2.1, .int .i64 v1034.2.2])) rfl (ev_iad_n rfl rfl e1034 rfl) (qg (.val none (.ptr [.int .i64 v1034.2.1, .int .i64 v1034.2.2])) rfl rfl (qg (AI v1034.2.1) rfl rfl (qg (.ptr 897 0 1) rfl rfl (qg (AI v1025.2.1) rfl rfl (qg (AB (decide (v1025.2.1 ≤ v1034.2.1))) rfl rfl (qg (AB (decide (v1025.2.1 ≤ v1034.2.1))) rfl rfl (qg (AB (decide (v1025.2.1 ≤ v1034.2.1))) rfl rfl ?_)))))))
            refine qp (AB (decide (v1025.2.1 ≤ v1034.2.1))) rfl ?_
            refine r_nil ?_
            refine cF hF (fun hF => ?_) fun hF => ?_
            ·
             refine ws 5505 5569 ?_
             refine qp (AB false) rfl ?_
             refine r_nil ?_
             refine w_ret ?_
             refine blockQ_r ?_
             refine thenQ_r ?_
             refine thenQ_r ?_
             refine blockQ_r ?_
             refine thenQ_r ?_
             cases hF
             exact eR
            ·
             refine w_skip ?_
             refine blockQ_n ?_
             refine thenQ_n ?_
             refine w_reg 5505 5697 rfl rfl ?_
             refine qp (AI v1024) rfl (qp (AI (w64 (v1024 + 1))) rfl (qp (AI (w64 (v1024 + 1))) rfl ?_))
             refine r_nil ?_
             refine thenQ_n ?_
             refine ar (l' := [(0, .val none (.ptr [.int .i64 v0.1, .int .i64 v0.2.1, .sl 1 (v0.2.2.1.map vI), .sl 3 (v0.2.2.2.map eArc)])), (3, AI (w64 (v1024 + 1)))]) (L := []) [0, 3] [] 1 ⟨_, by rfl, hF⟩
           ·
            refine qn rfl (qn rfl (qn rfl (qn rfl (qn rfl (qn rfl (qn rfl (qn rfl ?_)))))))
            refine qn rfl (qn rfl (qn rfl (qn rfl (qg (AB false) rfl rfl (qg (AB false) rfl rfl (qp (AB false) rfl ?_))))))
            refine r_nil ?_
            refine w_false rfl ?_
            refine w_skip ?_
            refine blockQ_n ?_
            refine thenQ_n ?_
            refine w_reg 5505 5697 rfl rfl ?_
            refine qp (AI v1024) rfl (qp (AI (w64 (v1024 + 1))) rfl (qp (AI (w64 (v1024 + 1))) rfl ?_))
            refine r_nil ?_
            refine thenQ_n ?_
            refine ar (l' := [(0, .val none (.ptr [.int .i64 v0.1, .int .i64 v0.2.1, .sl 1 (v0.2.2.1.map vI), .sl 3 (v0.2.2.2.map eArc)])), (3, AI (w64 (v1024 + 1)))]) (L := []) [0, 3] [] 1 ⟨_, by rfl, hF⟩
         ·
          refine qn rfl (qn rfl (qn rfl (qn rfl (qn rfl (qn rfl (qn rfl (qn rfl ?_)))))))
          refine qn rfl (qn rfl (qn rfl (qn rfl (qn rfl (qu rfl (qu rfl (qu rfl ?_)))))))
          refine qu rfl (qu rfl (qu rfl (qu rfl (qu rfl (qu rfl (qu rfl (qu rfl ?_)))))))
          refine qu rfl (qu rfl (qu rfl (qu rfl (qu rfl (qu rfl (qu rfl (qu rfl ?_)))))))
          refine qu rfl (qu rfl (qu rfl (qu rfl (qu rfl (qu rfl (qu rfl (qn rfl ?_)))))))
          refine qp (AB false) rfl ?_
          refine r_nil ?_
          refine w_false rfl ?_
          refine w_skip ?_
          refine blockQ_n ?_
          refine thenQ_n ?_
          refine w_reg 5505 5697 rfl rfl ?_
          refine qp (AI v1024) rfl (qp (AI (w64 (v1024 + 1))) rfl (qp (AI (w64 (v1024 + 1))) rfl ?_))
          refine r_nil ?_
          refine thenQ_n ?_
          refine ar (l' := [(0, .val none (.ptr [.int .i64 v0.1, .int .i64 v0.2.1, .sl 1 (v0.2.2.1.map vI), .sl 3 (v0.2.2.2.map eArc)])), (3, AI (w64 (v1024 + 1)))]) (L := []) [0, 3] [] 1 ⟨_, by rfl, hF⟩
     ·
      refine w_exit ?_
      refine thenQ_e ?_
      refine thenQ_e ?_
      refine blockQ_e ?_
      refine thenQ_n ?_
      refine ws 449 513 ?_
      refine qp (AB true) rfl ?_
      refine r_nil ?_
      refine w_ret ?_
      cases hF
      exact eR

def c285 : MC := (.seq (.reg [rg 2 (.p true (.mv (.c (.int .i64 0))))]) (.seq (.reg [rg 3 (.p true (.mv (.c (.int .i64 0))))]) (.seq (.seq (.reg [rg 4 (.p true (.mv (.c (.int .i64 0))))]) (.block 0 (.loop (.seq (.seq (.reg [mvt 5 4, mvt 6 0, rg 7 (.p true (.len (.t 6))), rg 8 (.p true (.bin .lss (.t 5) (.t 7)))]) (.cond (.t 8) .skip (.exit 0))) (.seq (.block 1 (.reg [mvt 11 3, mvt 12 0, mvt 13 4, rg 14 (.p true (.iad (.t 12) (.t 13) 1)), rg 15 (.p true (.ld (.t 14) 1 false)), rg 16 (.p true (.bin .add (.t 11) (.t 15))), mvt 3 16])) (.reg [mvt 9 4, rg 10 (.p true (.bin .add (.t 9) (.c (.int .i64 1)))), mvt 4 10])))))) (.seq (.reg [mvt 17 3, mvt 2 17]) .ret))))
theorem c285_is : compFn Try.prog 285 = some (c285, [(.tmp 2)]) := by kernel_rfl
theorem c285_ok : okFn Try.prog 285 = true := by kernel_rfl

noncomputable def F_spec_l17Sum_l0 (v0 : List Int) (k0 : Int × Int → Option (Int)) : Int × Int → Option (Int)
 | (v5, v6) => (bif (decide (v6 < (v0.length : Int))) then ((ix v0 v6).bind fun v1000 => k0 (w64 (v5 + v1000), w64 (v6 + 1)))
 else some v5)
noncomputable def F_spec_l17Sum (v0 : List Int) : Option (Int) :=
 loop (F_spec_l17Sum_l0 v0) (0, 0)
@[simp] def res_spec_l17Sum (r : Int) : RV := .one (.one (.val (.int .i64 r)))
theorem con_spec_l17Sum {v0 : List Int} {r : Int} (hF : F_spec_l17Sum v0 = some r) : Con Try.prog 285 [.sl 1 (v0.map vI)] (res_spec_l17Sum r) := by
 unfold F_spec_l17Sum at hF
 refine con_of c285_is fun N => ?_
 refine ws 0 64 ?_
 refine qp (AI 0) rfl ?_
 refine r_nil ?_
 refine ws 64 128 ?_
 refine qp (AI 0) rfl ?_
 refine r_nil ?_
 refine w_seq ?_
 refine ws 128 192 ?_
 refine qp (AI 0) rfl ?_
 refine r_nil ?_
 refine w_block ?_
 refine wr (l' := [(0, AL 1 (v0.map vI)), (3, AI 0), (4, AI 0)]) (L := []) [0, 3, 4] [] 1 ?_
 refine w_loopF (F_spec_l17Sum_l0 v0) (fun s : Int × Int => mkS [(0, AL 1 (v0.map vI)), (3, AI s.1), (4, AI s.2)] (fo []) 1) hF ?_
 rintro k0 ⟨v5, v6⟩ hF
 rw [F_spec_l17Sum_l0] at hF
 try dsimp only
 refine w_seq ?_
 refine ws 1 257 ?_
 refine qp (AI v6) rfl (qp (AL 1 (v0.map vI)) rfl (qp (AI (v0.length : Int)) (ev_len_n rfl) (qp (AB (decide (v6 < (v0.length : Int)))) rfl ?_)))
 refine r_nil ?_
 refine cF hF (fun hF => ?_) fun hF => ?_
 ·
  refine w_skip ?_
  refine thenQ_n ?_
  refine w_seq ?_
  refine w_block ?_
  refine w_reg 257 705 rfl rfl ?_
  refine qp (AI v5) rfl (qp (AL 1 (v0.map vI)) rfl (qp (AI v6) rfl ?_))
  obtain ⟨v1000, e1000, hF⟩ := bind_get hF
  refine qp (.val none (.ptr [.int .i64 v1000])) (ev_iad_n rfl rfl e1000 rfl) (qp (AI v1000) rfl (qp (AI (w64 (v5 + v1000))) rfl (qp (AI (w64 (v5 + v1000))) rfl ?_)))
  refine r_nil ?_
  refine blockQ_n ?_
  refine thenQ_n ?_
  refine w_reg 705 897 rfl rfl ?_
  refine qp (AI v6) rfl (qp (AI (w64 (v6 + 1))) rfl (qp (AI (w64 (v6 + 1))) rfl ?_))
  refine r_nil ?_
  refine thenQ_n ?_
  refine ar (l' := [(0, AL 1 (v0.map vI)), (3, AI (w64 (v5 + v1000))), (4, AI (w64 (v6 + 1)))]) (L := []) [0, 3, 4] [] 1 ⟨_, by rfl, hF⟩
 ·
  refine w_exit ?_
  refine thenQ_e ?_
  refine thenQ_e ?_
  refine blockQ_e ?_
  refine thenQ_n ?_
  refine ws 257 385 ?_
  refine qp (AI v5) rfl (qp (AI v5) rfl ?_)
  refine r_nil ?_
  refine w_ret ?_
  cases hF
  exact eR

def c272 : MC := (.seq (.reg [rg 2 (.p true (.mv (.c (.bool false))))]) (.seq (.reg [mvt 5 0, rg 6 (.p true (.nck (.t 5))), rg 7 (.p true (.fad (.t 6) 1)), rg 8 (.p true (.ld (.t 7) 1 false)), rg 9 (.p true (.len (.t 8))), mvt 3 9]) (.seq (.seq (.reg [mvt 10 0, rg 11 (.p true (.nck (.t 10))), rg 12 (.p true (.fad (.t 11) 0)), rg 13 (.p true (.ld (.t 12) 1 false)), rg 14 (.call true 94 [(.t 13)]), rg 15 (.p true (.not (.t 14))), mvt 16 15, ⟨(some 17), (some (16, false)), (.p true (.mv (.t 3)))⟩, ⟨(some 18), (some (16, false)), (.call true 93 [(.t 17), (.c (.int .i64 1)), (.c (.int .i64 8))])⟩, ⟨(some 19), (some (16, false)), (.p true (.not (.t 18)))⟩, rg 20 (.p true (.pick (.t 16) (.c (.bool true)) (.t 19))), mvt 21 20, ⟨(some 22), (some (21, false)), (.p true (.mv (.t 0)))⟩, ⟨(some 23), (some (21, false)), (.p true (.nck (.t 22)))⟩, ⟨(some 24), (some (21, false)), (.p true (.fad (.t 23) 2))⟩, ⟨(some 25), (some (21, false)), (.p true (.ld (.t 24) 1 false))⟩, ⟨(some 26), (some (21, false)), (.p true (.len (.t 25)))⟩, ⟨(some 27), (some (21, false)), (.p true (.mv (.t 3)))⟩, ⟨(some 28), (some (21, false)), (.p true (.bin .neq (.t 26) (.t 27)))⟩, rg 29 (.p true (.pick (.t 21) (.c (.bool true)) (.t 28)))]) (.cond (.t 29) (.seq (.reg [rg 2 (.p true (.mv (.c (.bool false))))]) .ret) .skip)) (.seq (.seq (.reg [rg 4 (.p true (.mv (.c (.int .i64 0))))]) (.block 0 (.loop (.seq (.seq (.reg [mvt 30 4, mvt 31 3, rg 32 (.p true (.bin .lss (.t 30) (.t 31)))]) (.cond (.t 32) .skip (.exit 0))) (.seq (.block 1 (.seq (.seq (.reg [mvt 35 0, rg 36 (.p true (.nck (.t 35))), rg 37 (.p true (.fad (.t 36) 1)), rg 38 (.p true (.ld (.t 37) 1 false)), mvt 39 4, rg 40 (.p true (.iad (.t 38) (.t 39) 1)), rg 41 (.p true (.ld (.t 40) 1 false)), rg 42 (.call true 93 [(.t 41), (.c (.int .i64 1)), (.c (.int .i64 16))]), rg 43 (.p true (.not (.t 42)))]) (.cond (.t 43) (.seq (.reg [rg 2 (.p true (.mv (.c (.bool false))))]) .ret) .skip)) (.seq (.reg [mvt 44 4, rg 45 (.p true (.bin .eql (.t 44) (.c (.int .i64 0)))), mvt 46 45, ⟨(some 47), (some (46, true)), (.p true (.mv (.t 0)))⟩, ⟨(some 48), (some (46, true)), (.p true (.nck (.t 47)))⟩, ⟨(some 49), (some (46, true)), (.p true (.fad (.t 48) 2))⟩, ⟨(some 50), (some (46, true)), (.p true (.ld (.t 49) 1 false))⟩, ⟨(some 51), (some (46, true)), (.p true (.mv (.t 4)))⟩, ⟨(some 52), (some (46, true)), (.p true (.iad (.t 50) (.t 51) 1))⟩, ⟨(some 53), (some (46, true)), (.p true (.ld (.t 52) 1 false))⟩, ⟨(some 54), (some (46, true)), (.p true (.bin .neq (.t 53) (.c (.int .i64 1))))⟩, rg 55 (.p true (.pick (.t 46) (.t 54) (.c (.bool false)))), mvt 56 55, ⟨(some 57), (some (56, false)), (.p true (.mv (.t 4)))⟩, ⟨(some 58), (some (56, false)), (.p true (.bin .gtr (.t 57) (.c (.int .i64 0))))⟩, ⟨(some 59), (some (56, false)), (.p true (.mv (.t 58)))⟩, ⟨(some 60), (some (59, true)), (.p true (.mv (.t 0)))⟩, ⟨(some 61), (some (59, true)), (.p true (.nck (.t 60)))⟩, ⟨(some 62), (some (59, true)), (.p true (.fad (.t 61) 2))⟩, ⟨(some 63), (some (59, true)), (.p true (.ld (.t 62) 1 false))⟩, ⟨(some 64), (some (59, true)), (.p true (.mv (.t 4)))⟩, ⟨(some 65), (some (59, true)), (.p true (.iad (.t 63) (.t 64) 1))⟩, ⟨(some 66), (some (59, true)), (.p true (.ld (.t 65) 1 false))⟩, ⟨(some 67), (some (59, true)), (.call true 93 [(.t 66), (.c (.int .i64 2)), (.c (.int .i64 3))])⟩, ⟨(some 68), (some (59, true)), (.p true (.not (.t 67)))⟩, ⟨(some 69), (some (56, false)), (.p true (.pick (.t 59) (.t 68) (.c (.bool false))))⟩, rg 70 (.p true (.pick (.t 56) (.c (.bool true)) (.t 69)))]) (.cond (.t 70) (.seq (.reg [rg 2 (.p true (.mv (.c (.bool false))))]) .ret) .skip)))) (.reg [mvt 33 4, rg 34 (.p true (.bin .add (.t 33) (.c (.int .i64 1)))), mvt 4 34])))))) (.seq (.reg [mvt 71 0, rg 72 (.p true (.nck (.t 71))), rg 73 (.p true (.fad (.t 72) 1)), rg 74 (.p true (.ld (.t 73) 1 false)), rg 75 (.call true 285 [(.t 74)]), rg 76 (.p true (.bin .leq (.t 75) (.c (.int .i64 32)))), mvt 2 76]) .ret)))))
theorem c272_is : compFn Try.prog 272 = some (c272, [(.tmp 2)]) := by kernel_rfl
theorem c272_ok : okFn Try.prog 272 = true := by kernel_rfl

noncomputable def F_spec_l17Ok_l0 (v0 : TTala) (k1 : Int → Option (Bool)) : Int → Option (Bool)
 | v1017 => (bif (decide (v1017 < (v0.2.1.length : Int))) then ((ix v0.2.1 v1017).bind fun v1018 => ((F_spec_l00In v1018 1 16).bind fun v1019 => (bif (!v1019) then some false
 else (bif (decide (v1017 = (0 : Int))) then ((ix v0.2.2 v1017).bind fun v1020 => (bif (decide (v1020 ≠ (1 : Int))) then some false
 else (bif (decide ((0 : Int) < v1017)) then ((ix v0.2.2 v1017).bind fun v1021 => ((F_spec_l00In v1021 2 3).bind fun v1022 => (bif (!v1022) then some false
 else k1 (w64 (v1017 + 1)))))
 else k1 (w64 (v1017 + 1)))))
 else (bif (decide ((0 : Int) < v1017)) then ((ix v0.2.2 v1017).bind fun v1023 => ((F_spec_l00In v1023 2 3).bind fun v1024 => (bif (!v1024) then some false
 else k1 (w64 (v1017 + 1)))))
 else k1 (w64 (v1017 + 1)))))))
 else ((F_spec_l17Sum v0.2.1).bind fun v1025 => some (decide (v1025 ≤ (32 : Int)))))
noncomputable def F_spec_l17Ok (v0 : TTala) : Option (Bool) :=
 ((F_spec_l01Name v0.1).bind fun v1000 => (bif (!v1000) then some false
 else ((F_spec_l00In (v0.2.1.length : Int) 1 8).bind fun v1001 => (bif (!v1001) then some false
 else (bif (decide ((v0.2.2.length : Int) ≠ (v0.2.1.length : Int))) then some false
 else loop (F_spec_l17Ok_l0 v0) 0)))))
@[simp] def res_spec_l17Ok (r : Bool) : RV := .one (.one (.val (.bool r)))
theorem con_spec_l17Ok {v0 : TTala} {r : Bool} (hF : F_spec_l17Ok v0 = some r) : Con Try.prog 272 [.ptr [.str v0.1, .sl 1 (v0.2.1.map vI), .sl 1 (v0.2.2.map vI)]] (res_spec_l17Ok r) := by
 unfold F_spec_l17Ok at hF
 refine con_of c272_is fun N => ?_
 refine ws 0 64 ?_
 refine qp (AB false) rfl ?_
 refine r_nil ?_
 refine ws 64 448 ?_
 refine qp (.val none (.ptr [.str v0.1, .sl 1 (v0.2.1.map vI), .sl 1 (v0.2.2.map vI)])) rfl (qp (.val none (.ptr [.str v0.1, .sl 1 (v0.2.1.map vI), .sl 1 (v0.2.2.map vI)])) rfl (qp (.val none (.ptr [.sl 1 (v0.2.1.map vI), .sl 1 (v0.2.2.map vI)])) rfl (qp (AL 1 (v0.2.1.map vI)) rfl (qp (AI (v0.2.1.length : Int)) (ev_len_n rfl) (qp (AI (v0.2.1.length : Int)) rfl ?_)))))
 refine r_nil ?_
 refine w_seq ?_
 refine ws 448 1728 ?_
 refine qp (.val none (.ptr [.str v0.1, .sl 1 (v0.2.1.map vI), .sl 1 (v0.2.2.map vI)])) rfl (qp (.val none (.ptr [.str v0.1, .sl 1 (v0.2.1.map vI), .sl 1 (v0.2.2.map vI)])) rfl (qp (.val none (.ptr [.str v0.1, .sl 1 (v0.2.1.map vI), .sl 1 (v0.2.2.map vI)])) rfl (qp (AS v0.1) rfl ?_)))
 obtain ⟨v1000, e1000, hF⟩ := bind_get hF
 refine qc (AB v1000) [] false (con_spec_l01Name e1000) c94_ok (by first | rfl | simp) rfl ?_
 refine qp (AB (!v1000)) rfl (qp (AB (!v1000)) rfl ?_)
 refine q_case 16 hF rfl (fun hF => ?_) (fun hF => ?_)
 ·
  refine qn rfl (qn rfl (qn rfl (qp (AB true) rfl (qp (AB true) rfl (qn rfl (qn rfl (qn rfl ?_)))))))
  refine qn rfl (qn rfl (qn rfl (qn rfl (qp (AB true) rfl ?_))))
  refine r_nil ?_
  refine w_true rfl ?_
  refine ws 1728 1792 ?_
  refine qp (AB false) rfl ?_
  refine r_nil ?_
  refine w_ret ?_
  refine thenQ_r ?_
  cases hF
  exact eR
 ·
  refine qg (AI (v0.2.1.length : Int)) rfl rfl ?_
  obtain ⟨v1001, e1001, hF⟩ := bind_get hF
  refine qcg (AB v1001) [] false rfl (con_spec_l00In e1001) c93_ok (by first | rfl | simp) rfl ?_
  refine qg (AB (!v1001)) rfl rfl (qp (AB (!v1001)) rfl (qp (AB (!v1001)) rfl ?_))
  refine q_case 21 hF rfl (fun hF => ?_) (fun hF => ?_)
  ·
   refine qn rfl (qn rfl (qn rfl (qn rfl (qn rfl (qn rfl (qn rfl (qp (AB true) rfl ?_)))))))
   refine r_nil ?_
   refine w_true rfl ?_
   refine ws 1728 1792 ?_
   refine qp (AB false) rfl ?_
   refine r_nil ?_
   refine w_ret ?_
   refine thenQ_r ?_
   cases hF
   exact eR
  ·
   refine qg (.val none (.ptr [.str v0.1, .sl 1 (v0.2.1.map vI), .sl 1 (v0.2.2.map vI)])) rfl rfl (qg (.val none (.ptr [.str v0.1, .sl 1 (v0.2.1.map vI), .sl 1 (v0.2.2.map vI)])) rfl rfl (qg (.val none (.ptr [.sl 1 (v0.2.2.map vI)])) rfl rfl (qg (AL 1 (v0.2.2.map vI)) rfl rfl (qg (AI (v0.2.2.length : Int)) rfl (ev_len_n rfl) (qg (AI (v0.2.1.length : Int)) rfl rfl (qg (AB (decide ((v0.2.2.length : Int) ≠ (v0.2.1.length : Int)))) rfl rfl (qp (AB (decide ((v0.2.2.length : Int) ≠ (v0.2.1.length : Int)))) rfl ?_)))))))
   refine r_nil ?_
   refine cF hF (fun hF => ?_) fun hF => ?_
   ·
    refine ws 1728 1792 ?_
    refine qp (AB false) rfl ?_
    refine r_nil ?_
    refine w_ret ?_
    refine thenQ_r ?_
    cases hF
    exact eR
   ·
    refine w_skip ?_
    refine thenQ_n ?_
    refine w_seq ?_
    refine ws 1728 1792 ?_
    refine qp (AI 0) rfl ?_
    refine r_nil ?_
    refine w_block ?_
    refine wr (l' := [(0, .val none (.ptr [.str v0.1, .sl 1 (v0.2.1.map vI), .sl 1 (v0.2.2.map vI)])), (3, AI (v0.2.1.length : Int)), (4, AI 0)]) (L := []) [0, 3, 4] [] 1 ?_
    refine w_loopF (F_spec_l17Ok_l0 v0) (fun s : Int => mkS [(0, .val none (.ptr [.str v0.1, .sl 1 (v0.2.1.map vI), .sl 1 (v0.2.2.map vI)])), (3, AI (v0.2.1.length : Int)), (4, AI s)] (fo []) 1) hF ?_
    rintro k1 v1017 hF
    rw [F_spec_l17Ok_l0] at hF
    try dsimp only
    refine w_seq ?_
    refine ws 1 193 ?_
    refine qp (AI v1017) rfl (qp (AI (v0.2.1.length : Int)) rfl (qp (AB (decide (v1017 < (v0.2.1.length : Int)))) rfl ?_))
    refine r_nil ?_
    refine cF hF (fun hF => ?_) fun hF => ?_
    ·
     refine w_skip ?_
     refine thenQ_n ?_
     refine w_seq ?_
     refine w_block ?_
     refine w_seq ?_
     refine ws 193 769 ?_
     refine qp (.val none (.ptr [.str v0.1, .sl 1 (v0.2.1.map vI), .sl 1 (v0.2.2.map vI)])) rfl (qp (.val none (.ptr [.str v0.1, .sl 1 (v0.2.1.map vI), .sl 1 (v0.2.2.map vI)])) rfl (qp (.val none (.ptr [.sl 1 (v0.2.1.map vI), .sl 1 (v0.2.2.map vI)])) rfl (qp (AL 1 (v0.2.1.map vI)) rfl (qp (AI v1017) rfl ?_))))
     obtain ⟨v1018, e1018, hF⟩ := bind_get hF
     refine qp (.val none (.ptr [.int .i64 v1018])) (ev_iad_n rfl rfl e1018 rfl) (qp (AI v1018) rfl ?_)
     obtain ⟨v1019, e1019, hF⟩ := bind_get hF
     refine qc (AB v1019) [] false (con_spec_l00In e1019) c93_ok (by first | rfl | simp) rfl ?_
     refine qp (AB (!v1019)) rfl ?_
     refine r_nil ?_
     refine cF hF (fun hF => ?_) fun hF => ?_
     ·
      refine ws 769 833 ?_
      refine qp (AB false) rfl ?_
      refine r_nil ?_
      refine w_ret ?_
      refine thenQ_r ?_
      refine blockQ_r ?_
      refine thenQ_r ?_
      refine thenQ_r ?_
      refine blockQ_r ?_
      refine thenQ_r ?_
      cases hF
      exact eR
     ·
      refine w_skip ?_
      refine thenQ_n ?_
      refine ws 769 2497 ?_
      refine qp (AI v1017) rfl (qp (AB (decide (v1017 = (0 : Int)))) rfl (qp (AB (decide (v1017 = (0 : Int)))) rfl ?_))
      refine q_case 46 hF rfl (fun hF => ?_) (fun hF => ?_)
      ·
       refine qg (.val none (.ptr [.str v0.1, .sl 1 (v0.2.1.map vI), .sl 1 (v0.2.2.map vI)])) rfl rfl (qg (.val none (.ptr [.str v0.1, .sl 1 (v0.2.1.map vI), .sl 1 (v0.2.2.map vI)])) rfl rfl (qg (.val none (.ptr [.sl 1 (v0.2.2.map vI)])) rfl rfl (qg (AL 1 (v0.2.2.map vI)) rfl rfl (qg (AI v1017) rfl rfl ?_))))
       obtain ⟨v1020, e1020, hF⟩ := bind_get hF
       refine qg (.val none (.ptr [.int .i64 v1020])) rfl (ev_iad_n rfl rfl e1020 rfl) (qg (AI v1020) rfl rfl (qg (AB (decide (v1020 ≠ (1 : Int)))) rfl rfl (qp (AB (decide (v1020 ≠ (1 : Int)))) rfl (qp (AB (decide (v1020 ≠ (1 : Int)))) rfl ?_))))
       refine q_case 56 hF rfl (fun hF => ?_) (fun hF => ?_)
       ·
        refine qn rfl (qn rfl (qn rfl (qu rfl (qu rfl (qu rfl (qu rfl (qu rfl ?_)))))))
        refine qu rfl (qu rfl (qu rfl (qu rfl (qn rfl (qp (AB true) rfl ?_)))))
        refine r_nil ?_
        refine w_true rfl ?_
        refine ws 2497 2561 ?_
        refine qp (AB false) rfl ?_
        refine r_nil ?_
        refine w_ret ?_
        refine blockQ_r ?_
        refine thenQ_r ?_
        refine thenQ_r ?_
        refine blockQ_r ?_
        refine thenQ_r ?_
        cases hF
        exact eR
       ·
        refine qg (AI v1017) rfl rfl (qg (AB (decide ((0 : Int) < v1017))) rfl rfl (qg (AB (decide ((0 : Int) < v1017))) rfl rfl ?_))
        refine q_case 59 hF rfl (fun hF => ?_) (fun hF => ?_)
        ·
         refine qg (.val none (.ptr [.str v0.1, .sl 1 (v0.2.1.map vI), .sl 1 (v0.2.2.map vI)])) rfl rfl (qg (.val none (.ptr [.str v0.1, .sl 1 (v0.2.1.map vI), .sl 1 (v0.2.2.map vI)])) rfl rfl (qg (.val none (.ptr [.sl 1 (v0.2.2.map vI)])) rfl rfl (qg (AL 1 (v0.2.2.map vI)) rfl rfl (qg (AI v1017) rfl rfl ?_))))
         obtain ⟨v1021, e1021, hF⟩ := bind_get hF
         refine qg (.val none (.ptr [.int .i64 v1021])) rfl (ev_iad_n rfl rfl e1021 rfl) (qg (AI v1021) rfl rfl ?_)
         obtain ⟨v1022, e1022, hF⟩ := bind_get hF
         refine qcg (AB v1022) [] false rfl (con_spec_l00In e1022) c93_ok (by first | rfl | simp) rfl ?_
         refine qg (AB (!v1022)) rfl rfl (qg (AB (!v1022)) rfl rfl (qp (AB (!v1022)) rfl ?_))
         refine r_nil ?_
         refine cF hF (fun hF => ?_) fun hF => ?_
         ·
          refine ws 2497 2561 ?_
          refine qp (AB false) rfl ?_
          refine r_nil ?_
          refine w_ret ?_
          refine blockQ_r ?_
          refine thenQ_r ?_
          refine thenQ_r ?_
          refine blockQ_r ?_
          refine thenQ_r ?_
          cases hF
          exact eR
         ·
          refine w_skip ?_
          refine blockQ_n ?_
          refine thenQ_n ?_
          refine w_reg 2497 2689 rfl rfl ?_
          refine qp (AI v1017) rfl (qp (AI (w64 (v1017 + 1))) rfl (qp (AI (w64 (v1017 + 1))) rfl ?_))
          refine r_nil ?_
          refine thenQ_n ?_
          refine ar (l' := [(0, .val none (.ptr [.str v0.1, .sl 1 (v0.2.1.map vI), .sl 1 (v0.2.2.map vI)])), (3, AI (v0.2.1.length : Int)), (4, AI (w64 (v1017 + 1)))]) (L := []) [0, 3, 4] [] 1 ⟨_, by rfl, hF⟩
        ·
         refine qn rfl (qn rfl (qn rfl (qn rfl (qn rfl (qn rfl (qn rfl (qn rfl ?_)))))))
         refine qn rfl (qg (AB false) rfl rfl (qp (AB false) rfl ?_))
         refine r_nil ?_
         refine w_false rfl ?_
         refine w_skip ?_
         refine blockQ_n ?_
         refine thenQ_n ?_
         refine w_reg 2497 2689 rfl rfl ?_
         refine qp (AI v1017) rfl (qp (AI (w64 (v1017 + 1))) rfl (qp (AI (w64 (v1017 + 1))) rfl ?_))
         refine r_nil ?_
         refine thenQ_n ?_
         refine ar (l' := [(0, .val none (.ptr [.str v0.1, .sl 1 (v0.2.1.map vI), .sl 1 (v0.2.2.map vI)])), (3, AI (v0.2.1.length : Int)), (4, AI (w64 (v1017 + 1)))]) (L := []) [0, 3, 4] [] 1 ⟨_, by rfl, hF⟩
      ·
       refine qn rfl (qn rfl (qn rfl (qn rfl (qn rfl (qn rfl (qn rfl (qn rfl ?_)))))))
       refine qp (AB false) rfl (qp (AB false) rfl (qg (AI v1017) rfl rfl (qg (AB (decide ((0 : Int) < v1017))) rfl rfl (qg (AB (decide ((0 : Int) < v1017))) rfl rfl ?_))))
       refine q_case 59 hF rfl (fun hF => ?_) (fun hF => ?_)
       ·
        refine qg (.val none (.ptr [.str v0.1, .sl 1 (v0.2.1.map vI), .sl 1 (v0.2.2.map vI)])) rfl rfl (qg (.val none (.ptr [.str v0.1, .sl 1 (v0.2.1.map vI), .sl 1 (v0.2.2.map vI)])) rfl rfl (qg (.val none (.ptr [.sl 1 (v0.2.2.map vI)])) rfl rfl (qg (AL 1 (v0.2.2.map vI)) rfl rfl (qg (AI v1017) rfl rfl ?_))))
        obtain ⟨v1023, e1023, hF⟩ := bind_get hF
        refine qg (.val none (.ptr [.int .i64 v1023])) rfl (ev_iad_n rfl rfl e1023 rfl) (qg (AI v1023) rfl rfl ?_)
        obtain ⟨v1024, e1024, hF⟩ := bind_get hF
        refine qcg (AB v1024) [] false rfl (con_spec_l00In e1024) c93_ok (by first | rfl | simp) rfl ?_
        refine qg (AB (!v1024)) rfl rfl (qg (AB (!v1024)) rfl rfl (qp (AB (!v1024)) rfl ?_))
        refine r_nil ?_
        refine cF hF (fun hF => ?_) fun hF => ?_
        ·
         refine ws 2497 2561 ?_
         refine qp (AB false) rfl ?_
         refine r_nil ?_
         refine w_ret ?_
         refine blockQ_r ?_
         refine thenQ_r ?_
         refine thenQ_r ?_
         refine blockQ_r ?_
         refine thenQ_r ?_
         cases hF
         exact eR
        ·
         refine w_skip ?_
         refine blockQ_n ?_
         refine thenQ_n ?_
         refine w_reg 2497 2689 rfl rfl ?_
         refine qp (AI v1017) rfl (qp (AI (w64 (v1017 + 1))) rfl (qp (AI (w64 (v1017 + 1))) rfl ?_))
         refine r_nil ?_
         refine thenQ_n ?_
         refine ar (l' := [(0, .val none (.ptr [.str v0.1, .sl 1 (v0.2.1.map vI), .sl 1 (v0.2.2.map vI)])), (3, AI (v0.2.1.length : Int)), (4, AI (w64 (v1017 + 1)))]) (L := []) [0, 3, 4] [] 1 ⟨_, by rfl, hF⟩
       ·
        refine qn rfl (qn rfl (qn rfl (qn rfl (qn rfl (qn rfl (qn rfl (qn rfl ?_)))))))
        refine qn rfl (qg (AB false) rfl rfl (qp (AB false) rfl ?_))
        refine r_nil ?_
        refine w_false rfl ?_
        refine w_skip ?_
        refine blockQ_n ?_
        refine thenQ_n ?_
        refine w_reg 2497 2689 rfl rfl ?_
        refine qp (AI v1017) rfl (qp (AI (w64 (v1017 + 1))) rfl (qp (AI (w64 (v1017 + 1))) rfl ?_))
        refine r_nil ?_
        refine thenQ_n ?_
        refine ar (l' := [(0, .val none (.ptr [.str v0.1, .sl 1 (v0.2.1.map vI), .sl 1 (v0.2.2.map vI)])), (3, AI (v0.2.1.length : Int)), (4, AI (w64 (v1017 + 1)))]) (L := []) [0, 3, 4] [] 1 ⟨_, by rfl, hF⟩
    ·
     refine w_exit ?_
     refine thenQ_e ?_
     refine thenQ_e ?_
     refine blockQ_e ?_
     refine thenQ_n ?_
     refine ws 193 641 ?_
     refine qp (.val none (.ptr [.str v0.1, .sl 1 (v0.2.1.map vI), .sl 1 (v0.2.2.map vI)])) rfl (qp (.val none (.ptr [.str v0.1, .sl 1 (v0.2.1.map vI), .sl 1 (v0.2.2.map vI)])) rfl (qp (.val none (.ptr [.sl 1 (v0.2.1.map vI), .sl 1 (v0.2.2.map vI)])) rfl (qp (AL 1 (v0.2.1.map vI)) rfl ?_)))
     obtain ⟨v1025, e1025, hF⟩ := bind_get hF
     refine qc (AI v1025) [] false (con_spec_l17Sum e1025) c285_ok (by first | rfl | simp) rfl ?_
     refine qp (AB (decide (v1025 ≤ (32 : Int)))) rfl (qp (AB (decide (v1025 ≤ (32 : Int)))) rfl ?_)
     refine r_nil ?_
     refine w_ret ?_
     cases hF
     exact eR

def c231 : MC := (.seq (.reg [rg 4 (.p true (.mv (.c (.int .i64 0))))]) (.seq (.seq (.reg [mvt 5 0, rg 6 (.call true 272 [(.t 5)]), rg 7 (.p true (.not (.t 6)))]) (.cond (.t 7) (.seq (.reg [rg 4 (.p true (.mv (.c (.int .i64 1))))]) .ret) .skip)) (.seq (.seq (.reg [mvt 8 1, rg 9 (.call true 93 [(.t 8), (.c (.int .i64 1)), (.c (.int .i64 8))]), rg 10 (.p true (.not (.t 9)))]) (.cond (.t 10) (.seq (.reg [rg 4 (.p true (.mv (.c (.int .i64 2))))]) .ret) .skip)) (.seq (.reg [rg 4 (.p true (.mv (.c (.int .i64 0))))]) .ret))))
theorem c231_is : compFn Try.prog 231 = some (c231, [(.tmp 4)]) := by kernel_rfl
theorem c231_ok : okFn Try.prog 231 = true := by kernel_rfl

noncomputable def F_spec_l19Ask (v0 : TTala) (v1 : Int) : Option (Int) :=
 ((F_spec_l17Ok v0).bind fun v1000 => (bif (!v1000) then some 1
 else ((F_spec_l00In v1 1 8).bind fun v1001 => (bif (!v1001) then some 2
 else some 0))))
@[simp] def res_spec_l19Ask (r : Int) : RV := .one (.one (.val (.int .i64 r)))
theorem con_spec_l19Ask {v0 : TTala} {v1 : Int} {r : Int} (hF : F_spec_l19Ask v0 v1 = some r) : Con Try.prog 231 [.ptr [.str v0.1, .sl 1 (v0.2.1.map vI), .sl 1 (v0.2.2.map vI)], .int .i64 v1] (res_spec_l19Ask r) := by
 unfold F_spec_l19Ask at hF
 refine con_of c231_is fun N => ?_
 refine ws 0 64 ?_
 refine qp (AI 0) rfl ?_
 refine r_nil ?_
 refine w_seq ?_
 refine ws 64 256 ?_
 refine qp (.val none (.ptr [.str v0.1, .sl 1 (v0.2.1.map vI), .sl 1 (v0.2.2.map vI)])) rfl ?_
 obtain ⟨v1000, e1000, hF⟩ := bind_get hF
 refine qc (AB v1000) [] false (con_spec_l17Ok e1000) c272_ok (by first | rfl | simp) rfl ?_
 refine qp (AB (!v1000)) rfl ?_
 refine r_nil ?_
 refine cF hF (fun hF => ?_) fun hF => ?_
 ·
  refine ws 256 320 ?_
  refine qp (AI 1) rfl ?_
  refine r_nil ?_
  refine w_ret ?_
  refine thenQ_r ?_
  cases hF
  exact eR
 ·
  refine w_skip ?_
  refine thenQ_n ?_
  refine w_seq ?_
  refine ws 256 448 ?_
  refine qp (AI v1) rfl ?_
  obtain ⟨v1001, e1001, hF⟩ := bind_get hF
  refine qc (AB v1001) [] false (con_spec_l00In e1001) c93_ok (by first | rfl | simp) rfl ?_
  refine qp (AB (!v1001)) rfl ?_
  refine r_nil ?_
  refine cF hF (fun hF => ?_) fun hF => ?_
  ·
   refine ws 448 512 ?_
   refine qp (AI 2) rfl ?_
   refine r_nil ?_
   refine w_ret ?_
   refine thenQ_r ?_
   cases hF
   exact eR
  ·
   refine w_skip ?_
   refine thenQ_n ?_
   refine ws 448 512 ?_
   refine qp (AI 0) rfl ?_
   refine r_nil ?_
   refine w_ret ?_
   cases hF
   exact eR

def c273 : MC := (.seq (.reg [rg 2 (.p true (.mv (.c (.int .i64 0))))]) (.seq (.reg [mvt 3 0, rg 4 (.p true (.nck (.t 3))), rg 5 (.p true (.fad (.t 4) 1)), rg 6 (.p true (.ld (.t 5) 1 false)), rg 7 (.call true 285 [(.t 6)]), mvt 2 7]) .ret))
theorem c273_is : compFn Try.prog 273 = some (c273, [(.tmp 2)]) := by kernel_rfl
theorem c273_ok : okFn Try.prog 273 = true := by kernel_rfl

noncomputable def F_spec_l17Beats (v0 : TTala) : Option (Int) :=
 ((F_spec_l17Sum v0.2.1).bind fun v1000 => some v1000)
@[simp] def res_spec_l17Beats (r : Int) : RV := .one (.one (.val (.int .i64 r)))
theorem con_spec_l17Beats {v0 : TTala} {r : Int} (hF : F_spec_l17Beats v0 = some r) : Con Try.prog 273 [.ptr [.str v0.1, .sl 1 (v0.2.1.map vI), .sl 1 (v0.2.2.map vI)]] (res_spec_l17Beats r) := by
 unfold F_spec_l17Beats at hF
 refine con_of c273_is fun N => ?_
 refine ws 0 64 ?_
 refine qp (AI 0) rfl ?_
 refine r_nil ?_
 refine ws 64 448 ?_
 refine qp (.val none (.ptr [.str v0.1, .sl 1 (v0.2.1.map vI), .sl 1 (v0.2.2.map vI)])) rfl (qp (.val none (.ptr [.str v0.1, .sl 1 (v0.2.1.map vI), .sl 1 (v0.2.2.map vI)])) rfl (qp (.val none (.ptr [.sl 1 (v0.2.1.map vI), .sl 1 (v0.2.2.map vI)])) rfl (qp (AL 1 (v0.2.1.map vI)) rfl ?_)))
 obtain ⟨v1000, e1000, hF⟩ := bind_get hF
 refine qc (AI v1000) [] false (con_spec_l17Sum e1000) c285_ok (by first | rfl | simp) rfl ?_
 refine qp (AI v1000) rfl ?_
 refine r_nil ?_
 refine w_ret ?_
 cases hF
 exact eR

def c232 : MC := (.seq (.reg [rg 4 (.p true (.mv (.c (.int .i64 0))))]) (.seq (.reg [mvt 5 0, rg 6 (.call true 273 [(.t 5)]), mvt 7 1, rg 8 (.p true (.bin .mul (.t 6) (.t 7))), mvt 4 8]) .ret))
theorem c232_is : compFn Try.prog 232 = some (c232, [(.tmp 4)]) := by kernel_rfl
theorem c232_ok : okFn Try.prog 232 = true := by kernel_rfl

noncomputable def F_spec_l19Units (v0 : TTala) (v1 : Int) : Option (Int) :=
 ((F_spec_l17Beats v0).bind fun v1000 => some (w64 (v1000 * v1)))
@[simp] def res_spec_l19Units (r : Int) : RV := .one (.one (.val (.int .i64 r)))
theorem con_spec_l19Units {v0 : TTala} {v1 : Int} {r : Int} (hF : F_spec_l19Units v0 v1 = some r) : Con Try.prog 232 [.ptr [.str v0.1, .sl 1 (v0.2.1.map vI), .sl 1 (v0.2.2.map vI)], .int .i64 v1] (res_spec_l19Units r) := by
 unfold F_spec_l19Units at hF
 refine con_of c232_is fun N => ?_
 refine ws 0 64 ?_
 refine qp (AI 0) rfl ?_
 refine r_nil ?_
 refine ws 64 384 ?_
 refine qp (.val none (.ptr [.str v0.1, .sl 1 (v0.2.1.map vI), .sl 1 (v0.2.2.map vI)])) rfl ?_
 obtain ⟨v1000, e1000, hF⟩ := bind_get hF
 refine qc (AI v1000) [] false (con_spec_l17Beats e1000) c273_ok (by first | rfl | simp) rfl ?_
 refine qp (AI v1) rfl (qp (AI (w64 (v1000 * v1))) rfl (qp (AI (w64 (v1000 * v1))) rfl ?_))
 refine r_nil ?_
 refine w_ret ?_
 cases hF
 exact eR

def c147 : MC := (.seq (.reg [rg 6 (.p true (.mv (.c (.int .i64 0))))]) (.seq (.reg [mvt 8 0, mvt 9 1, rg 10 (.call true 231 [(.t 8), (.t 9)]), mvt 7 10]) (.seq (.seq (.reg [mvt 11 7, rg 12 (.p true (.bin .eql (.t 11) (.c (.int .i64 0)))), mvt 13 12, ⟨(some 14), (some (13, true)), (.p true (.mv (.t 2)))⟩, ⟨(some 15), (some (13, true)), (.p true (.mv (.t 0)))⟩, ⟨(some 16), (some (13, true)), (.p true (.mv (.t 1)))⟩, ⟨(some 17), (some (13, true)), (.call true 232 [(.t 15), (.t 16)])⟩, ⟨(some 18), (some (13, true)), (.p true (.bin .sub (.t 17) (.c (.int .i64 1))))⟩, ⟨(some 19), (some (13, true)), (.call true 93 [(.t 14), (.c (.int .i64 0)), (.t 18)])⟩, ⟨(some 20), (some (13, true)), (.p true (.not (.t 19)))⟩, rg 21 (.p true (.pick (.t 13) (.t 20) (.c (.bool false))))]) (.cond (.t 21) (.seq (.reg [rg 6 (.p true (.mv (.c (.int .i64 2))))]) .ret) .skip)) (.seq (.reg [mvt 22 7, mvt 6 22]) .ret))))
theorem c147_is : compFn Try.prog 147 = some (c147, [(.tmp 6)]) := by kernel_rfl
theorem c147_ok : okFn Try.prog 147 = true := by kernel_rfl

noncomputable def F_spec_l19Start (v0 : TTala) (v1 : Int) (v2 : Int) : Option (Int) :=
 ((F_spec_l19Ask v0 v1).bind fun v1000 => (bif (decide (v1000 = (0 : Int))) then ((F_spec_l19Units v0 v1).bind fun v1001 => ((F_spec_l00In v2 0 (w64 (v1001 - 1))).bind fun v1002 => (bif (!v1002) then some 2
 else some v1000)))
 else some v1000))
@[simp] def res_spec_l19Start (r : Int) : RV := .one (.one (.val (.int .i64 r)))
theorem con_spec_l19Start {v0 : TTala} {v1 : Int} {v2 : Int} {r : Int} (hF : F_spec_l19Start v0 v1 v2 = some r) : Con Try.prog 147 [.ptr [.str v0.1, .sl 1 (v0.2.1.map vI), .sl 1 (v0.2.2.map vI)], .int .i64 v1, .int .i64 v2] (res_spec_l19Start r) := by
 unfold F_spec_l19Start at hF
 refine con_of c147_is fun N => ?_
 refine ws 0 64 ?_
 refine qp (AI 0) rfl ?_
 refine r_nil ?_
 refine ws 64 320 ?_
 refine qp (.val none (.ptr [.str v0.1, .sl 1 (v0.2.1.map vI), .sl 1 (v0.2.2.map vI)])) rfl (qp (AI v1) rfl ?_)
 obtain ⟨v1000, e1000, hF⟩ := bind_get hF
 refine qc (AI v1000) [] false (con_spec_l19Ask e1000) c231_ok (by first | rfl | simp) rfl ?_
 refine qp (AI v1000) rfl ?_
 refine r_nil ?_
 refine w_seq ?_
 refine ws 320 1024 ?_
 refine qp (AI v1000) rfl (qp (AB (decide (v1000 = (0 : Int)))) rfl (qp (AB (decide (v1000 = (0 : Int)))) rfl ?_))
 refine q_case 13 hF rfl (fun hF => ?_) (fun hF => ?_)
 ·
  refine qg (AI v2) rfl rfl (qg (.val none (.ptr [.str v0.1, .sl 1 (v0.2.1.map vI), .sl 1 (v0.2.2.map vI)])) rfl rfl (qg (AI v1) rfl rfl ?_))
  obtain ⟨v1001, e1001, hF⟩ := bind_get hF
  refine qcg (AI v1001) [] false rfl (con_spec_l19Units e1001) c232_ok (by first | rfl | simp) rfl ?_
  refine qg (AI (w64 (v1001 - 1))) rfl rfl ?_
  obtain ⟨v1002, e1002, hF⟩ := bind_get hF
  refine qcg (AB v1002) [] false rfl (con_spec_l00In e1002) c93_ok (by first | rfl | simp) rfl ?_
  refine qg (AB (!v1002)) rfl rfl (qp (AB (!v1002)) rfl ?_)
  refine r_nil ?_
  refine cF hF (fun hF => ?_) fun hF => ?_
  ·
   refine ws 1024 1088 ?_
   refine qp (AI 2) rfl ?_
   refine r_nil ?_
   refine w_ret ?_
   refine thenQ_r ?_
   cases hF
   exact eR
  ·
   refine w_skip ?_
   refine thenQ_n ?_
   refine ws 1024 1152 ?_
   refine qp (AI v1000) rfl (qp (AI v1000) rfl ?_)
   refine r_nil ?_
   refine w_ret ?_
   cases hF
   exact eR
 ·
  refine qn rfl (qn rfl (qn rfl (qn rfl (qn rfl (qn rfl (qn rfl (qp (AB false) rfl ?_)))))))
  refine r_nil ?_
  refine w_false rfl ?_
  refine w_skip ?_
  refine thenQ_n ?_
  refine ws 1024 1152 ?_
  refine qp (AI v1000) rfl (qp (AI v1000) rfl ?_)
  refine r_nil ?_
  refine w_ret ?_
  cases hF
  exact eR

def c148 : MC := (.seq (.reg [rg 2 (.p true (.mv (.c (.bool false))))]) (.seq (.reg [mvt 3 0, rg 4 (.call true 93 [(.t 3), (.c (.int .i64 1)), (.c (.int .i64 64))]), mvt 2 4]) .ret))
theorem c148_is : compFn Try.prog 148 = some (c148, [(.tmp 2)]) := by kernel_rfl
theorem c148_ok : okFn Try.prog 148 = true := by kernel_rfl

noncomputable def F_spec_l19Phrase (v0 : Int) : Option (Bool) :=
 ((F_spec_l00In v0 1 64).bind fun v1000 => some v1000)
@[simp] def res_spec_l19Phrase (r : Bool) : RV := .one (.one (.val (.bool r)))
theorem con_spec_l19Phrase {v0 : Int} {r : Bool} (hF : F_spec_l19Phrase v0 = some r) : Con Try.prog 148 [.int .i64 v0] (res_spec_l19Phrase r) := by
 unfold F_spec_l19Phrase at hF
 refine con_of c148_is fun N => ?_
 refine ws 0 64 ?_
 refine qp (AB false) rfl ?_
 refine r_nil ?_
 refine ws 64 256 ?_
 refine qp (AI v0) rfl ?_
 obtain ⟨v1000, e1000, hF⟩ := bind_get hF
 refine qc (AB v1000) [] false (con_spec_l00In e1000) c93_ok (by first | rfl | simp) rfl ?_
 refine qp (AB v1000) rfl ?_
 refine r_nil ?_
 refine w_ret ?_
 cases hF
 exact eR

def c149 : MC := (.seq (.reg [rg 2 (.p true (.mv (.c (.bool false))))]) (.seq (.reg [mvt 3 0, rg 4 (.call true 93 [(.t 3), (.c (.int .i64 0)), (.c (.int .i64 32))]), mvt 2 4]) .ret))
theorem c149_is : compFn Try.prog 149 = some (c149, [(.tmp 2)]) := by kernel_rfl
theorem c149_ok : okFn Try.prog 149 = true := by kernel_rfl

noncomputable def F_spec_l19Gap (v0 : Int) : Option (Bool) :=
 ((F_spec_l00In v0 0 32).bind fun v1000 => some v1000)
@[simp] def res_spec_l19Gap (r : Bool) : RV := .one (.one (.val (.bool r)))
theorem con_spec_l19Gap {v0 : Int} {r : Bool} (hF : F_spec_l19Gap v0 = some r) : Con Try.prog 149 [.int .i64 v0] (res_spec_l19Gap r) := by
 unfold F_spec_l19Gap at hF
 refine con_of c149_is fun N => ?_
 refine ws 0 64 ?_
 refine qp (AB false) rfl ?_
 refine r_nil ?_
 refine ws 64 256 ?_
 refine qp (AI v0) rfl ?_
 obtain ⟨v1000, e1000, hF⟩ := bind_get hF
 refine qc (AB v1000) [] false (con_spec_l00In e1000) c93_ok (by first | rfl | simp) rfl ?_
 refine qp (AB v1000) rfl ?_
 refine r_nil ?_
 refine w_ret ?_
 cases hF
 exact eR

end Go.Ab
