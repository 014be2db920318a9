/- Walks (printed by auto.py, a program of this session's own). -/
import Derived.Test.YtakpgohimiidpaaU0
import Derived.Test.YtakpgohimiidpaaProg
import Derived.KernelRfl
import Derived.Test.YtakpgohimiidpaaSQ
set_option linter.unusedVariables false
set_option linter.unusedSimpArgs false
set_option maxRecDepth 8000
set_option maxHeartbeats 8000000
namespace Go.Ab
open Go.RowKit Go.Proofs

def c8 : MC := (.seq (.reg [rg 6 (.f (.nilrow 3)), rg 7 (.p true (.mv (.c (.int .i64 0))))]) (.seq (.block 0 (.seq (.reg [mvt 17 0, rg 18 (.call true 18 [(.t 17)]), rg 19 (.p true (.not (.t 18))), mvt 20 19, ⟨(some 21), (some (20, false)), (.p true (.mv (.t 1)))⟩, ⟨(some 22), (some (20, false)), (.call true 19 [(.t 21)])⟩, ⟨(some 23), (some (20, false)), (.p true (.not (.t 22)))⟩, rg 24 (.p true (.pick (.t 20) (.c (.bool true)) (.t 23))), mvt 16 24]) (.cond (.t 16) (.seq (.reg [rg 6 (.f (.nilrow 3)), rg 7 (.p true (.mv (.c (.int .i64 1))))]) .ret) (.seq (.reg [mvt 26 2, rg 27 (.call true 21 [(.t 26), (.c (.int .i64 1)), (.c (.int .i64 10000))]), rg 28 (.p true (.not (.t 27))), mvt 25 28]) (.cond (.t 25) (.seq (.reg [rg 6 (.f (.nilrow 3)), rg 7 (.p true (.mv (.c (.int .i64 2))))]) .ret) .skip))))) (.seq (.reg [mvt 29 0, rg 30 (.call true 22 [(.t 29)]), mvt 8 30]) (.seq (.seq (.reg [mvt 31 0, mvt 32 1, rg 33 (.call true 20 [(.t 31), (.t 32)]), rg 34 (.p true (.len (.t 33))), rg 35 (.p true (.mv (.c (.int .i64 0))))]) (.block 1 (.loop (.seq (.reg [rg 36 (.p true (.bin .lss (.t 35) (.t 34)))]) (.seq (.cond (.t 36) .skip (.exit 1)) (.seq (.block 2 (.seq (.reg [rg 37 (.p true (.iad (.t 33) (.t 35) 1)), rg 38 (.p true (.ld (.t 37) 1 false)), mvt 10 38]) (.seq (.alt [rg 39 (.p false (.mv (.t 1))), rg 40 (.p false (.mv (.t 10))), rg 41 (.p false (.iad (.t 40) (.c (.int .i64 0)) 1)), rg 42 (.p false (.ld (.t 41) 1 false)), rg 43 (.p false (.iad (.t 39) (.t 42) 3)), rg 44 (.p false (.ld (.t 43) 3 true)), rg 45 (.p false (.mv (.t 0))), rg 46 (.p false (.mv (.t 10))), rg 47 (.p false (.iad (.t 46) (.c (.int .i64 1)) 1)), rg 48 (.p false (.ld (.t 47) 1 false)), rg 49 (.p false (.iad (.t 45) (.t 48) 3)), rg 50 (.p false (.ld (.t 49) 3 true)), rg 11 (.f (.alloc [((.str []), (0, false)), ((.str []), (0, false)), ((.int .i64 0), (0, false))])), rg 12 (.f (.alloc [((.str []), (0, false)), ((.int .i64 0), (0, false)), ((.int .i64 0), (0, false))])), ⟨none, none, (.f (.st (.t 11) (.t 44) 3))⟩, ⟨none, none, (.f (.st (.t 12) (.t 50) 3))⟩] [[0, 1, 2, 3, 4, 5, 6, 7, 8, 9, 10, 11, 12, 13, 14, 15], [0, 1, 2, 3, 4, 5, 6, 7, 8, 9, 10, 12, 13, 14, 11, 15], [0, 1, 2, 3, 4, 5, 6, 7, 8, 9, 12, 13, 14, 10, 11, 15], [0, 1, 2, 3, 4, 5, 6, 7, 8, 12, 13, 14, 9, 10, 11, 15], [0, 1, 2, 3, 4, 5, 6, 7, 12, 13, 14, 8, 9, 10, 11, 15], [0, 1, 2, 3, 4, 5, 6, 12, 13, 14, 7, 8, 9, 10, 11, 15], [0, 1, 2, 3, 4, 5, 7, 8, 9, 12, 13, 14, 6, 10, 11, 15], [0, 1, 2, 3, 4, 5, 7, 8, 12, 13, 14, 6, 9, 10, 11, 15], [0, 1, 2, 3, 4, 5, 7, 12, 13, 14, 6, 8, 9, 10, 11, 15], [0, 1, 2, 3, 4, 5, 12, 13, 14, 6, 7, 8, 9, 10, 11, 15]]) (.seq (.reg [rg 51 (.p false (.fad (.t 11) 1)), rg 52 (.p false (.ld (.t 51) 1 false)), rg 53 (.p false (.ld (.t 12) 3 true)), rg 54 (.call false 23 [(.t 53)]), rg 55 (.p false (.fad (.t 11) 2)), rg 56 (.p false (.ld (.t 55) 1 false)), rg 57 (.p false (.bin .add (.t 54) (.t 56))), rg 58 (.p false (.mv (.t 2))), rg 59 (.f (.bld [((.str []), (0, true)), ((.int .i64 0), (0, true)), ((.int .i64 0), (0, true))] [(0, (1, (.t 52))), (1, (1, (.t 57))), (2, (1, (.t 58)))])), rg 13 (.f (.alloc [((.str []), (0, false)), ((.int .i64 0), (0, false)), ((.int .i64 0), (0, false))])), ⟨none, none, (.f (.st (.t 13) (.t 59) 3))⟩]) (.seq (.seq (.reg [mvt 60 8, rg 61 (.p true (.fad (.t 13) 0)), rg 62 (.p true (.ld (.t 61) 1 false)), rg 63 (.p true (.fad (.t 13) 1)), rg 64 (.p true (.ld (.t 63) 1 false)), rg 65 (.call true 24 [(.t 60), (.t 62), (.t 64)])]) (.cond (.t 65) (.exit 2) .skip)) (.seq (.seq (.reg [rg 66 (.p true (.ld (.t 13) 3 true)), rg 67 (.call true 25 [(.t 66)]), rg 68 (.p true (.not (.t 67)))]) (.cond (.t 68) (.seq (.reg [rg 6 (.f (.nilrow 3)), rg 7 (.p true (.mv (.c (.int .i64 6))))]) .ret) .skip)) (.seq (.reg [mvt 70 8, rg 71 (.p true (.ld (.t 13) 3 true)), rg 72 (.call true 26 [(.t 70), (.t 71), (.f 27)]), mvt 69 72, rg 73 (.p true (.ext (.t 69) 0)), rg 74 (.p true (.ext (.t 69) 1)), mvt 14 73, mvt 15 74]) (.reg [mvt 75 8, mvt 76 14, rg 77 (.p true (.ld (.t 13) 3 true)), rg 78 (.f (.bsl 3 [(.t 77)])), rg 79 (.call true 28 [(.t 75), (.t 76), (.t 78)]), mvt 8 79])))))))) (.reg [rg 80 (.p true (.bin .add (.t 35) (.c (.int .i64 1)))), mvt 35 80]))))))) (.seq (.seq (.reg [mvt 81 8, rg 82 (.p true (.len (.t 81))), rg 83 (.p true (.bin .gtr (.t 82) (.c (.int .i64 24))))]) (.cond (.t 83) (.seq (.reg [rg 6 (.f (.nilrow 3)), rg 7 (.p true (.mv (.c (.int .i64 5))))]) .ret) .skip)) (.seq (.reg [mvt 84 8, mvt 6 84, rg 7 (.p true (.mv (.c (.int .i64 0))))]) .ret))))))
theorem c8_is : compFn Try.prog 8 = some (c8, [(.tmp 6), (.tmp 7)]) := by kernel_rfl
theorem c8_ok : okFn Try.prog 8 = true := by kernel_rfl

noncomputable def F_impl_AddAnswers_l2 (v0 : List TTurn) (v1 : List TAnswer) (v2 : Int) (v1004 : List (List Int)) (k2 : Int × (List TTurn) → Option ((List TTurn) × Int)) : Int × (List TTurn) → Option ((List TTurn) × Int)
 | (v50011, v50012) => (bif (decide (v50011 < (v1004.length : Int))) then ((ix v1004 v50011).bind fun v1035 => ((ix v1035 0).bind fun v1036 => ((ix v1 v1036).bind fun v1037 => ((ix v1035 1).bind fun v1038 => ((ix v0 v1038).bind fun v1039 => ((F_impl_Turn_end v1039).bind fun v1040 => ((F_impl_begins v50012 v1037.2.1 (w64 (v1040 + v1037.2.2))).bind fun v1041 => (bif v1041 then k2 (w64 (v50011 + 1), v50012)
 else ((F_impl_Turn_valid (v1037.2.1, w64 (v1040 + v1037.2.2), v2)).bind fun v1042 => (bif (!v1042) then some ([], 6)
 else ((F_slices_BinarySearchFunc_STurn_Turn v50012 (v1037.2.1, w64 (v1040 + v1037.2.2), v2)).bind fun v1043 => ((F_ins 32 v50012 v1043.1 [(v1037.2.1, w64 (v1040 + v1037.2.2), v2)]).bind fun v1044 => k2 (w64 (v50011 + 1), v1044)))))))))))))
 else (bif (decide ((24 : Int) < (v50012.length : Int))) then some ([], 5)
 else some (v50012, 0)))
noncomputable def F_impl_AddAnswers_j0 (v0 : List TTurn) (v1 : List TAnswer) (v2 : Int) : Option ((List TTurn) × Int) :=
 ((F_slices_Clone_STurn_Turn v0).bind fun v1003 => ((F_impl_missed v0 v1).bind fun v1004 => loop (F_impl_AddAnswers_l2 v0 v1 v2 v1004) (0, v1003)))
noncomputable def F_impl_AddAnswers_j1 (v0 : List TTurn) (v1 : List TAnswer) (v2 : Int) (v50000 : Bool) : Option ((List TTurn) × Int) :=
 (bif v50000 then some ([], 1)
 else ((F_impl_within v2 1 10000).bind fun v1002 => (bif (!v1002) then some ([], 2)
 else F_impl_AddAnswers_j0 v0 v1 v2)))
noncomputable def F_impl_AddAnswers (v0 : List TTurn) (v1 : List TAnswer) (v2 : Int) : Option ((List TTurn) × Int) :=
 ((F_impl_ValidTurns v0).bind fun v1000 => (bif (!v1000) then F_impl_AddAnswers_j1 v0 v1 v2 true
 else ((F_impl_answersOk v1).bind fun v1001 => F_impl_AddAnswers_j1 v0 v1 v2 (!v1001))))
@[simp] def res_impl_AddAnswers (r : (List TTurn) × Int) : RV := .tup [.one (.row true 3 (r.1.map eTurn)), .one (.val (.int .i64 r.2))]
theorem con_impl_AddAnswers {v0 : List TTurn} {v1 : List TAnswer} {v2 : Int} {r : (List TTurn) × Int} (hF : F_impl_AddAnswers v0 v1 v2 = some r) : Con Try.prog 8 [.sl 3 (v0.map eTurn), .sl 3 (v1.map eAnswer), .int .i64 v2] (res_impl_AddAnswers r) := by
 unfold F_impl_AddAnswers at hF
 refine con_of c8_is fun N => ?_
 refine ws 0 128 ?_
 refine qf (.sl 0 0 0) [(0, .row true 3 (([] : List Int).map vI))] (by simp) ?_
 refine qp (AI 0) rfl ?_
 refine r_nil ?_
 refine w_meet (fun s' => s' = mkS [(0, AL 3 (v0.map eTurn)), (1, AL 3 (v1.map eAnswer)), (2, AI v2)] (fo []) 1 ∧ F_impl_AddAnswers_j0 v0 v1 v2 = some r) ?_ ?_
 ·
  refine w_block ?_
  refine w_meet (fun s' => ∃ (v50000 : Bool), s' = mkS [(0, AL 3 (v0.map eTurn)), (1, AL 3 (v1.map eAnswer)), (2, AI v2), (16, AB v50000)] (fo []) 1 ∧ F_impl_AddAnswers_j1 v0 v1 v2 v50000 = some r) ?_ ?_
  ·
   refine w_reg 128 704 rfl rfl ?_
   refine qp (AL 3 (v0.map eTurn)) rfl ?_
   obtain ⟨v1000, e1000, hF⟩ := bind_get hF
   refine qc (AB v1000) [(0, .row true 3 (([] : List Int).map vI))] false (con_impl_ValidTurns e1000) c18_ok (by first | rfl | simp) rfl ?_
   refine qp (AB (!v1000)) rfl (qp (AB (!v1000)) rfl ?_)
   refine q_case 20 hF rfl (fun hF => ?_) (fun hF => ?_)
   ·
    refine qn rfl (qn rfl (qn rfl (qp (AB true) rfl (qp (AB true) rfl ?_))))
    refine r_nil ?_
    refine thenQ_n ?_
    refine ar (l' := [(0, AL 3 (v0.map eTurn)), (1, AL 3 (v1.map eAnswer)), (2, AI v2), (16, AB true)]) (L := []) [0, 1, 2, 16] [] 1 ⟨_, rfl, hF⟩
   ·
    refine qg (AL 3 (v1.map eAnswer)) rfl rfl ?_
    obtain ⟨v1001, e1001, hF⟩ := bind_get hF
    refine qcg (AB v1001) [(0, .row true 3 (([] : List Int).map vI))] false rfl (con_impl_answersOk e1001) c19_ok (by first | rfl | simp) rfl ?_
    refine qg (AB (!v1001)) rfl rfl (qp (AB (!v1001)) rfl (qp (AB (!v1001)) rfl ?_))
    refine r_nil ?_
    refine thenQ_n ?_
    refine ar (l' := [(0, AL 3 (v0.map eTurn)), (1, AL 3 (v1.map eAnswer)), (2, AI v2), (16, AB (!v1001))]) (L := []) [0, 1, 2, 16] [] 1 ⟨_, rfl, hF⟩
  ·
   rintro s' ⟨v50000, rfl, hF⟩
   unfold F_impl_AddAnswers_j1 at hF
   refine cF hF (fun hF => ?_) fun hF => ?_
   ·
    refine ws 1 129 ?_
    refine qf (.sl 1 0 0) [(1, .row true 3 (([] : List TTurn).map eTurn))] (by simp) ?_
    refine qp (AI 1) rfl ?_
    refine r_nil ?_
    refine w_ret ?_
    refine blockQ_r ?_
    refine thenQ_r ?_
    cases hF
    exact eR
   ·
    refine ws 1 257 ?_
    refine qp (AI v2) rfl ?_
    obtain ⟨v1002, e1002, hF⟩ := bind_get hF
    refine qc (AB v1002) [] false (con_impl_within e1002) c21_ok (by first | rfl | simp) rfl ?_
    refine qp (AB (!v1002)) rfl (qp (AB (!v1002)) rfl ?_)
    refine r_nil ?_
    refine cF hF (fun hF => ?_) fun hF => ?_
    ·
     refine ws 257 385 ?_
     refine qf (.sl 257 0 0) [(257, .row true 3 (([] : List TTurn).map eTurn))] (by simp) ?_
     refine qp (AI 2) rfl ?_
     refine r_nil ?_
     refine w_ret ?_
     refine blockQ_r ?_
     refine thenQ_r ?_
     cases hF
     exact eR
    ·
     refine w_skip ?_
     refine blockQ_n ?_
     refine thenQ_n ?_
     refine ar (l' := [(0, AL 3 (v0.map eTurn)), (1, AL 3 (v1.map eAnswer)), (2, AI v2)]) (L := []) [0, 1, 2] [] 1 ⟨rfl, hF⟩
 ·
  rintro s' ⟨rfl, hF⟩
  unfold F_impl_AddAnswers_j0 at hF
  refine ws 1 193 ?_
  refine qp (AL 3 (v0.map eTurn)) rfl ?_
  obtain ⟨v1003, e1003, hF⟩ := bind_get hF
  refine qc (.sl 65 0 v1003.length) [(65, .row true 3 (v1003.map eTurn))] false (con_slices_Clone_STurn_Turn e1003) c22_ok (by first | rfl | simp) (by simp [res_slices_Clone_STurn_Turn]) ?_
  refine qp (.sl 65 0 v1003.length) rfl ?_
  refine r_nil ?_
  refine w_seq ?_
  refine ws 193 513 ?_
  refine qp (AL 3 (v0.map eTurn)) rfl (qp (AL 3 (v1.map eAnswer)) rfl ?_)
  obtain ⟨v1004, e1004, hF⟩ := bind_get hF
  refine qc (.sl 321 0 v1004.length) [(321, .row true 1 (v1004.map (eL 1 vI))), (65, .row true 3 (v1003.map eTurn))] false (con_impl_missed e1004) c20_ok (by first | rfl | simp) (by simp [res_impl_missed]) ?_
  refine qp (AI (v1004.length : Int)) rfl (qp (AI 0) rfl ?_)
  refine r_nil ?_
  refine w_block ?_
  refine wr (l' := [(0, AL 3 (v0.map eTurn)), (1, AL 3 (v1.map eAnswer)), (2, AI v2), (8, .sl 0 0 v1003.length), (33, .sl 1 0 v1004.length), (34, AI (v1004.length : Int)), (35, AI 0)]) (L := [(1, .row true 1 (v1004.map (eL 1 vI))), (0, .row true 3 (v1003.map eTurn))]) [0, 1, 2, 8, 33, 34, 35] [(321, 1), (65, 0)] 2 ?_
  refine w_loopF (F_impl_AddAnswers_l2 v0 v1 v2 v1004) (fun s : Int × (List TTurn) => mkS [(0, AL 3 (v0.map eTurn)), (1, AL 3 (v1.map eAnswer)), (2, AI v2), (8, .sl 0 0 s.2.length), (33, .sl 1 0 v1004.length), (34, AI (v1004.length : Int)), (35, AI s.1)] (fo [(1, .row true 1 (v1004.map (eL 1 vI))), (0, .row true 3 (s.2.map eTurn))]) 2) hF ?_
  rintro k2 ⟨v50011, v50012⟩ hF
  rw [F_impl_AddAnswers_l2] at hF
  try dsimp only
  refine ws 2 66 ?_
  refine qp (AB (decide (v50011 < (v1004.length : Int)))) rfl ?_
  refine r_nil ?_
  refine w_seq ?_
  refine cF hF (fun hF => ?_) fun hF => ?_
  ·
   refine w_skip ?_
   refine thenQ_n ?_
   refine w_seq ?_
   refine w_block ?_
   refine ws 66 258 ?_
   obtain ⟨v1035, e1035, hF⟩ := bind_get hF
   refine qp (.ptr 1 v50011.toNat 0) (ev_iad_r rfl (by simp) rfl rfl e1035) (qp (.val (some 1) (.sl 1 (v1035.map vI))) (ev_ld_r rfl rfl (ix_some e1035).2 rfl rfl) (qp (.val (some 1) (.sl 1 (v1035.map vI))) rfl ?_))
   refine r_nil ?_
   obtain ⟨v1036, e1036, hF⟩ := bind_get hF
   obtain ⟨v1037, e1037, hF⟩ := bind_get hF
   obtain ⟨v1038, e1038, hF⟩ := bind_get hF
   obtain ⟨v1039, e1039, hF⟩ := bind_get hF
   refine w_alt_seq 258 1282 rfl rfl ⟨?_, ?_, ?_, ?_, ?_, ?_, ?_, ?_, ?_, ?_, trivial⟩
   ·
    refine qp (AL 3 (v1.map eAnswer)) rfl (qp (.val (some 1) (.sl 1 (v1035.map vI))) rfl ?_)
    refine qp (.val (some 1) (.ptr [.int .i64 v1036])) (ev_iad_s rfl rfl rfl e1036 rfl) (qp (AI v1036) rfl ?_)
    refine qp (.val none (.ptr [.str v1037.1, .str v1037.2.1, .int .i64 v1037.2.2])) (ev_iad_n rfl rfl e1037 rfl) (qp (.val none (eAnswer v1037)) rfl (qp (AL 3 (v0.map eTurn)) rfl (qp (.val (some 1) (.sl 1 (v1035.map vI))) rfl ?_)))
    refine qp (.val (some 1) (.ptr [.int .i64 v1038])) (ev_iad_s rfl rfl rfl e1038 rfl) (qp (AI v1038) rfl ?_)
    refine qp (.val none (.ptr [.str v1039.1, .int .i64 v1039.2.1, .int .i64 v1039.2.2])) (ev_iad_n rfl rfl e1039 rfl) (qp (.val none (eTurn v1039)) rfl ?_)
    refine qf (.ptr 1026 0 0) [(1026, .box [AS [], AS [], AI 0]), (1, .row true 1 (v1004.map (eL 1 vI))), (0, .row true 3 (v50012.map eTurn))] (by simp) ?_
    refine qf (.ptr 1090 0 0) [(1090, .box [AS [], AI 0, AI 0]), (1026, .box [AS [], AS [], AI 0]), (1, .row true 1 (v1004.map (eL 1 vI))), (0, .row true 3 (v50012.map eTurn))] (by simp) ?_
    refine qf0 (.undef) [(1026, .box [AS v1037.1, AS v1037.2.1, AI v1037.2.2]), (1090, .box [AS [], AI 0, AI 0]), (1026, .box [AS [], AS [], AI 0]), (1, .row true 1 (v1004.map (eL 1 vI))), (0, .row true 3 (v50012.map eTurn))] (by simp) ?_
    refine qf0 (.undef) [(1090, .box [AS v1039.1, AI v1039.2.1, AI v1039.2.2]), (1026, .box [AS v1037.1, AS v1037.2.1, AI v1037.2.2]), (1090, .box [AS [], AI 0, AI 0]), (1026, .box [AS [], AS [], AI 0]), (1, .row true 1 (v1004.map (eL 1 vI))), (0, .row true 3 (v50012.map eTurn))] (by simp) ?_
    refine r_nil ?_
    refine ws 1282 1986 ?_
    refine qp (.ptr 1026 0 1) rfl (qp (AS v1037.2.1) rfl (qp (.agg [AS v1039.1, AI v1039.2.1, AI v1039.2.2]) rfl ?_))
    obtain ⟨v1040, e1040, hF⟩ := bind_get hF
    refine qc (AI v1040) [(1090, .box [AS v1039.1, AI v1039.2.1, AI v1039.2.2]), (1026, .box [AS v1037.1, AS v1037.2.1, AI v1037.2.2]), (1090, .box [AS [], AI 0, AI 0]), (1026, .box [AS [], AS [], AI 0]), (1, .row true 1 (v1004.map (eL 1 vI))), (0, .row true 3 (v50012.map eTurn))] false (con_impl_Turn_end e1040) c23_ok (by first | rfl | simp) rfl ?_
    refine qp (.ptr 1026 0 2) rfl (qp (AI v1037.2.2) rfl (qp (AI (w64 (v1040 + v1037.2.2))) rfl (qp (AI v2) rfl ?_)))
    refine qf (.agg [AS v1037.2.1, AI (w64 (v1040 + v1037.2.2)), AI v2]) [(1090, .box [AS v1039.1, AI v1039.2.1, AI v1039.2.2]), (1026, .box [AS v1037.1, AS v1037.2.1, AI v1037.2.2]), (1090, .box [AS [], AI 0, AI 0]), (1026, .box [AS [], AS [], AI 0]), (1, .row true 1 (v1004.map (eL 1 vI))), (0, .row true 3 (v50012.map eTurn))] (by simp) ?_
    refine qf (.ptr 1858 0 0) [(1858, .box [AS [], AI 0, AI 0]), (1090, .box [AS v1039.1, AI v1039.2.1, AI v1039.2.2]), (1026, .box [AS v1037.1, AS v1037.2.1, AI v1037.2.2]), (1090, .box [AS [], AI 0, AI 0]), (1026, .box [AS [], AS [], AI 0]), (1, .row true 1 (v1004.map (eL 1 vI))), (0, .row true 3 (v50012.map eTurn))] (by simp) ?_
    refine qf0 (.undef) [(1858, .box [AS v1037.2.1, AI (w64 (v1040 + v1037.2.2)), AI v2]), (1858, .box [AS [], AI 0, AI 0]), (1090, .box [AS v1039.1, AI v1039.2.1, AI v1039.2.2]), (1026, .box [AS v1037.1, AS v1037.2.1, AI v1037.2.2]), (1090, .box [AS [], AI 0, AI 0]), (1026, .box [AS [], AS [], AI 0]), (1, .row true 1 (v1004.map (eL 1 vI))), (0, .row true 3 (v50012.map eTurn))] (by simp) ?_
    refine r_nil ?_
    refine w_seq ?_
    refine ws 1986 2370 ?_
    refine qp (.sl 0 0 v50012.length) rfl (qp (.ptr 1858 0 0) rfl (qp (AS v1037.2.1) rfl (qp (.ptr 1858 0 1) rfl (qp (AI (w64 (v1040 + v1037.2.2))) rfl ?_))))
    obtain ⟨v1041, e1041, hF⟩ := bind_get hF
    refine qc (AB v1041) [(1858, .box [AS v1037.2.1, AI (w64 (v1040 + v1037.2.2)), AI v2]), (1858, .box [AS [], AI 0, AI 0]), (1090, .box [AS v1039.1, AI v1039.2.1, AI v1039.2.2]), (1026, .box [AS v1037.1, AS v1037.2.1, AI v1037.2.2]), (1090, .box [AS [], AI 0, AI 0]), (1026, .box [AS [], AS [], AI 0]), (1, .row true 1 (v1004.map (eL 1 vI))), (0, .row true 3 (v50012.map eTurn))] true (con_impl_begins e1041) c24_ok (by simp [List.take_of_length_le]) rfl ?_
    refine r_nil ?_
    refine cF hF (fun hF => ?_) fun hF => ?_
    ·
     refine w_exit ?_
     refine thenQ_e ?_
     refine blockQ_e ?_
     refine thenQ_n ?_
     refine w_reg 2370 2498 rfl rfl ?_
     refine qp (AI (w64 (v50011 + 1))) rfl (qp (AI (w64 (v50011 + 1))) rfl ?_)
     refine r_nil ?_
     refine thenQ_n ?_
     refine ar (l' := [(0, AL 3 (v0.map eTurn)), (1, AL 3 (v1.map eAnswer)), (2, AI v2), (8, .sl 0 0 v50012.length), (33, .sl 1 0 v1004.length), (34, AI (v1004.length : Int)), (35, AI (w64 (v50011 + 1)))]) (L := [(1, .row true 1 (v1004.map (eL 1 vI))), (0, .row true 3 (v50012.map eTurn))]) [0, 1, 2, 8, 33, 34, 35] [(1, 1), (0, 0)] 2 ⟨_, by rfl, hF⟩
    ·
     refine w_skip ?_
     refine thenQ_n ?_
     refine w_seq ?_
     refine ws 2370 2562 ?_
     refine qp (.agg [AS v1037.2.1, AI (w64 (v1040 + v1037.2.2)), AI v2]) rfl ?_
     obtain ⟨v1042, e1042, hF⟩ := bind_get hF
     refine qc (AB v1042) [(1858, .box [AS v1037.2.1, AI (w64 (v1040 + v1037.2.2)), AI v2]), (1858, .box [AS [], AI 0, AI 0]), (1090, .box [AS v1039.1, AI v1039.2.1, AI v1039.2.2]), (1026, .box [AS v1037.1, AS v1037.2.1, AI v1037.2.2]), (1090, .box [AS [], AI 0, AI 0]), (1026, .box [AS [], AS [], AI 0]), (1, .row true 1 (v1004.map (eL 1 vI))), (0, .row true 3 (v50012.map eTurn))] false (con_impl_Turn_valid e1042) c25_ok (by first | rfl | simp) rfl ?_
     refine qp (AB (!v1042)) rfl ?_
     refine r_nil ?_
     refine cF hF (fun hF => ?_) fun hF => ?_
     ·
      refine ws 2562 2690 ?_
      refine qf (.sl 2562 0 0) [(2562, .row true 3 (([] : List TTurn).map eTurn)), (1858, .box [AS v1037.2.1, AI (w64 (v1040 + v1037.2.2)), AI v2]), (1858, .box [AS [], AI 0, AI 0]), (1090, .box [AS v1039.1, AI v1039.2.1, AI v1039.2.2]), (1026, .box [AS v1037.1, AS v1037.2.1, AI v1037.2.2]), (1090, .box [AS [], AI 0, AI 0]), (1026, .box [AS [], AS [], AI 0]), (1, .row true 1 (v1004.map (eL 1 vI))), (0, .row true 3 (v50012.map eTurn))] (by simp) ?_
      refine qp (AI 6) rfl ?_
      refine r_nil ?_
      refine w_ret ?_
      refine thenQ_r ?_
      refine blockQ_r ?_
      refine thenQ_r ?_
      refine thenQ_r ?_
      refine blockQ_r ?_
      refine thenQ_r ?_
      cases hF
      exact eR
     ·
      refine w_skip ?_
      refine thenQ_n ?_
      refine ws 2562 3074 ?_
      refine qp (.sl 0 0 v50012.length) rfl (qp (.agg [AS v1037.2.1, AI (w64 (v1040 + v1037.2.2)), AI v2]) rfl ?_)
      obtain ⟨v1043, e1043, hF⟩ := bind_get hF
      refine qc (.tup [AI v1043.1, AB v1043.2]) [(1858, .box [AS v1037.2.1, AI (w64 (v1040 + v1037.2.2)), AI v2]), (1858, .box [AS [], AI 0, AI 0]), (1090, .box [AS v1039.1, AI v1039.2.1, AI v1039.2.2]), (1026, .box [AS v1037.1, AS v1037.2.1, AI v1037.2.2]), (1090, .box [AS [], AI 0, AI 0]), (1026, .box [AS [], AS [], AI 0]), (1, .row true 1 (v1004.map (eL 1 vI))), (0, .row true 3 (v50012.map eTurn))] true (con_slices_BinarySearchFunc_STurn_Turn e1043) c26_ok (by simp [List.take_of_length_le]) rfl ?_
      refine qp (.tup [AI v1043.1, AB v1043.2]) rfl (qp (AI v1043.1) rfl (qp (AB v1043.2) rfl (qp (AI v1043.1) rfl (qp (AB v1043.2) rfl ?_))))
      refine r_nil ?_
      refine w_reg 3074 3458 rfl rfl ?_
      refine qp (.sl 0 0 v50012.length) rfl (qp (AI v1043.1) rfl (qp (.agg [AS v1037.2.1, AI (w64 (v1040 + v1037.2.2)), AI v2]) rfl ?_))
      refine qf (.sl 3266 0 ([(v1037.2.1, w64 (v1040 + v1037.2.2), v2)].length)) [(3266, .row true 3 ([(v1037.2.1, w64 (v1040 + v1037.2.2), v2)].map eTurn)), (1858, .box [AS v1037.2.1, AI (w64 (v1040 + v1037.2.2)), AI v2]), (1858, .box [AS [], AI 0, AI 0]), (1090, .box [AS v1039.1, AI v1039.2.1, AI v1039.2.2]), (1026, .box [AS v1037.1, AS v1037.2.1, AI v1037.2.2]), (1090, .box [AS [], AI 0, AI 0]), (1026, .box [AS [], AS [], AI 0]), (1, .row true 1 (v1004.map (eL 1 vI))), (0, .row true 3 (v50012.map eTurn))] (by simp [List.take_of_length_le]) ?_
      obtain ⟨v1044, e1044, hF⟩ := bind_get hF
      refine qX (.sl 3330 0 v1044.length) [(3330, .row true 3 (v1044.map eTurn)), (0, .dead), (3266, .row true 3 ([(v1037.2.1, w64 (v1040 + v1037.2.2), v2)].map eTurn)), (1858, .box [AS v1037.2.1, AI (w64 (v1040 + v1037.2.2)), AI v2]), (1858, .box [AS [], AI 0, AI 0]), (1090, .box [AS v1039.1, AI v1039.2.1, AI v1039.2.2]), (1026, .box [AS v1037.1, AS v1037.2.1, AI v1037.2.2]), (1090, .box [AS [], AI 0, AI 0]), (1026, .box [AS [], AS [], AI 0]), (1, .row true 1 (v1004.map (eL 1 vI))), (0, .row true 3 (v50012.map eTurn))] true rfl rfl (whole_row (by simp)) (con_ins_28 (e := eTurn) e1044) c28_ok (by simp [List.take_of_length_le]) (by simp [RV.r]) ?_
      refine qp (.sl 3330 0 v1044.length) rfl ?_
      refine r_nil ?_
      refine blockQ_n ?_
      refine thenQ_n ?_
      refine w_reg 3458 3586 rfl rfl ?_
      refine qp (AI (w64 (v50011 + 1))) rfl (qp (AI (w64 (v50011 + 1))) rfl ?_)
      refine r_nil ?_
      refine thenQ_n ?_
      refine ar (l' := [(0, AL 3 (v0.map eTurn)), (1, AL 3 (v1.map eAnswer)), (2, AI v2), (8, .sl 0 0 v1044.length), (33, .sl 1 0 v1004.length), (34, AI (v1004.length : Int)), (35, AI (w64 (v50011 + 1)))]) (L := [(1, .row true 1 (v1004.map (eL 1 vI))), (0, .row true 3 (v1044.map eTurn))]) [0, 1, 2, 8, 33, 34, 35] [(1, 1), (3330, 0)] 2 ⟨_, by rfl, hF⟩
   ·
    refine qp (AL 3 (v1.map eAnswer)) rfl (qp (.val (some 1) (.sl 1 (v1035.map vI))) rfl ?_)
    refine qp (.val (some 1) (.ptr [.int .i64 v1036])) (ev_iad_s rfl rfl rfl e1036 rfl) (qp (AI v1036) rfl ?_)
    refine qp (.val none (.ptr [.str v1037.1, .str v1037.2.1, .int .i64 v1037.2.2])) (ev_iad_n rfl rfl e1037 rfl) (qp (.val none (eAnswer v1037)) rfl (qp (AL 3 (v0.map eTurn)) rfl (qp (.val (some 1) (.sl 1 (v1035.map vI))) rfl ?_)))
    refine qp (.val (some 1) (.ptr [.int .i64 v1038])) (ev_iad_s rfl rfl rfl e1038 rfl) (qp (AI v1038) rfl ?_)
    refine qp (.val none (.ptr [.str v1039.1, .int .i64 v1039.2.1, .int .i64 v1039.2.2])) (ev_iad_n rfl rfl e1039 rfl) ?_
    refine qf (.ptr 1026 0 0) [(1026, .box [AS [], AS [], AI 0]), (1, .row true 1 (v1004.map (eL 1 vI))), (0, .row true 3 (v50012.map eTurn))] (by simp) ?_
    refine qf (.ptr 1090 0 0) [(1090, .box [AS [], AI 0, AI 0]), (1026, .box [AS [], AS [], AI 0]), (1, .row true 1 (v1004.map (eL 1 vI))), (0, .row true 3 (v50012.map eTurn))] (by simp) ?_
    refine qf0 (.undef) [(1026, .box [AS v1037.1, AS v1037.2.1, AI v1037.2.2]), (1090, .box [AS [], AI 0, AI 0]), (1026, .box [AS [], AS [], AI 0]), (1, .row true 1 (v1004.map (eL 1 vI))), (0, .row true 3 (v50012.map eTurn))] (by simp) ?_
    refine qp (.val none (eTurn v1039)) rfl ?_
    refine qf0 (.undef) [(1090, .box [AS v1039.1, AI v1039.2.1, AI v1039.2.2]), (1026, .box [AS v1037.1, AS v1037.2.1, AI v1037.2.2]), (1090, .box [AS [], AI 0, AI 0]), (1026, .box [AS [], AS [], AI 0]), (1, .row true 1 (v1004.map (eL 1 vI))), (0, .row true 3 (v50012.map eTurn))] (by simp) ?_
    refine r_nil ?_
    refine ws 1282 1986 ?_
    refine qp (.ptr 1026 0 1) rfl (qp (AS v1037.2.1) rfl (qp (.agg [AS v1039.1, AI v1039.2.1, AI v1039.2.2]) rfl ?_))
    obtain ⟨v1045, e1045, hF⟩ := bind_get hF
    refine qc (AI v1045) [(1090, .box [AS v1039.1, AI v1039.2.1, AI v1039.2.2]), (1026, .box [AS v1037.1, AS v1037.2.1, AI v1037.2.2]), (1090, .box [AS [], AI 0, AI 0]), (1026, .box [AS [], AS [], AI 0]), (1, .row true 1 (v1004.map (eL 1 vI))), (0, .row true 3 (v50012.map eTurn))] false (con_impl_Turn_end e1045) c23_ok (by first | rfl | simp) rfl ?_
    refine qp (.ptr 1026 0 2) rfl (qp (AI v1037.2.2) rfl (qp (AI (w64 (v1045 + v1037.2.2))) rfl (qp (AI v2) rfl ?_)))
    refine qf (.agg [AS v1037.2.1, AI (w64 (v1045 + v1037.2.2)), AI v2]) [(1090, .box [AS v1039.1, AI v1039.2.1, AI v1039.2.2]), (1026, .box [AS v1037.1, AS v1037.2.1, AI v1037.2.2]), (1090, .box [AS [], AI 0, AI 0]), (1026, .box [AS [], AS [], AI 0]), (1, .row true 1 (v1004.map (eL 1 vI))), (0, .row true 3 (v50012.map eTurn))] (by simp) ?_
    refine qf (.ptr 1858 0 0) [(1858, .box [AS [], AI 0, AI 0]), (1090, .box [AS v1039.1, AI v1039.2.1, AI v1039.2.2]), (1026, .box [AS v1037.1, AS v1037.2.1, AI v1037.2.2]), (1090, .box [AS [], AI 0, AI 0]), (1026, .box [AS [], AS [], AI 0]), (1, .row true 1 (v1004.map (eL 1 vI))), (0, .row true 3 (v50012.map eTurn))] (by simp) ?_
    refine qf0 (.undef) [(1858, .box [AS v1037.2.1, AI (w64 (v1045 + v1037.2.2)), AI v2]), (1858, .box [AS [], AI 0, AI 0]), (1090, .box [AS v1039.1, AI v1039.2.1, AI v1039.2.2]), (1026, .box [AS v1037.1, AS v1037.2.1, AI v1037.2.2]), (1090, .box [AS [], AI 0, AI 0]), (1026, .box [AS [], AS [], AI 0]), (1, .row true 1 (v1004.map (eL 1 vI))), (0, .row true 3 (v50012.map eTurn))] (by simp) ?_
    refine r_nil ?_
    refine w_seq ?_
    refine ws 1986 2370 ?_
    refine qp (.sl 0 0 v50012.length) rfl (qp (.ptr 1858 0 0) rfl (qp (AS v1037.2.1) rfl (qp (.ptr 1858 0 1) rfl (qp (AI (w64 (v1045 + v1037.2.2))) rfl ?_))))
    obtain ⟨v1046, e1046, hF⟩ := bind_get hF
    refine qc (AB v1046) [(1858, .box [AS v1037.2.1, AI (w64 (v1045 + v1037.2.2)), AI v2]), (1858, .box [AS [], AI 0, AI 0]), (1090, .box [AS v1039.1, AI v1039.2.1, AI v1039.2.2]), (1026, .box [AS v1037.1, AS v1037.2.1, AI v1037.2.2]), (1090, .box [AS [], AI 0, AI 0]), (1026, .box [AS [], AS [], AI 0]), (1, .row true 1 (v1004.map (eL 1 vI))), (0, .row true 3 (v50012.map eTurn))] true (con_impl_begins e1046) c24_ok (by simp [List.take_of_length_le]) rfl ?_
    refine r_nil ?_
    refine cF hF (fun hF => ?_) fun hF => ?_
    ·
     refine w_exit ?_
     refine thenQ_e ?_
     refine blockQ_e ?_
     refine thenQ_n ?_
     refine w_reg 2370 2498 rfl rfl ?_
     refine qp (AI (w64 (v50011 + 1))) rfl (qp (AI (w64 (v50011 + 1))) rfl ?_)
     refine r_nil ?_
     refine thenQ_n ?_
     refine ar (l' := [(0, AL 3 (v0.map eTurn)), (1, AL 3 (v1.map eAnswer)), (2, AI v2), (8, .sl 0 0 v50012.length), (33, .sl 1 0 v1004.length), (34, AI (v1004.length : Int)), (35, AI (w64 (v50011 + 1)))]) (L := [(1, .row true 1 (v1004.map (eL 1 vI))), (0, .row true 3 (v50012.map eTurn))]) [0, 1, 2, 8, 33, 34, 35] [(1, 1), (0, 0)] 2 ⟨_, by rfl, hF⟩
    ·
     refine w_skip ?_
     refine thenQ_n ?_
     refine w_seq ?_
     refine ws 2370 2562 ?_
     refine qp (.agg [AS v1037.2.1, AI (w64 (v1045 + v1037.2.2)), AI v2]) rfl ?_
     obtain ⟨v1047, e1047, hF⟩ := bind_get hF
     refine qc (AB v1047) [(1858, .box [AS v1037.2.1, AI (w64 (v1045 + v1037.2.2)), AI v2]), (1858, .box [AS [], AI 0, AI 0]), (1090, .box [AS v1039.1, AI v1039.2.1, AI v1039.2.2]), (1026, .box [AS v1037.1, AS v1037.2.1, AI v1037.2.2]), (1090, .box [AS [], AI 0, AI 0]), (1026, .box [AS [], AS [], AI 0]), (1, .row true 1 (v1004.map (eL 1 vI))), (0, .row true 3 (v50012.map eTurn))] false (con_impl_Turn_valid e1047) c25_ok (by first | rfl | simp) rfl ?_
     refine qp (AB (!v1047)) rfl ?_
     refine r_nil ?_
     refine cF hF (fun hF => ?_) fun hF => ?_
     ·
      refine ws 2562 2690 ?_
      refine qf (.sl 2562 0 0) [(2562, .row true 3 (([] : List TTurn).map eTurn)), (1858, .box [AS v1037.2.1, AI (w64 (v1045 + v1037.2.2)), AI v2]), (1858, .box [AS [], AI 0, AI 0]), (1090, .box [AS v1039.1, AI v1039.2.1, AI v1039.2.2]), (1026, .box [AS v1037.1, AS v1037.2.1, AI v1037.2.2]), (1090, .box [AS [], AI 0, AI 0]), (1026, .box [AS [], AS [], AI 0]), (1, .row true 1 (v1004.map (eL 1 vI))), (0, .row true 3 (v50012.map eTurn))] (by simp) ?_
      refine qp (AI 6) rfl ?_
      refine r_nil ?_
      refine w_ret ?_
      refine thenQ_r ?_
      refine blockQ_r ?_
      refine thenQ_r ?_
      refine thenQ_r ?_
      refine blockQ_r ?_
      refine thenQ_r ?_
      cases hF
      exact eR
     ·
      refine w_skip ?_
      refine thenQ_n ?_
      refine ws 2562 3074 ?_
      refine qp (.sl 0 0 v50012.length) rfl (qp (.agg [AS v1037.2.1, AI (w64 (v1045 + v1037.2.2)), AI v2]) rfl ?_)
      obtain ⟨v1048, e1048, hF⟩ := bind_get hF
      refine qc (.tup [AI v1048.1, AB v1048.2]) [(1858, .box [AS v1037.2.1, AI (w64 (v1045 + v1037.2.2)), AI v2]), (1858, .box [AS [], AI 0, AI 0]), (1090, .box [AS v1039.1, AI v1039.2.1, AI v1039.2.2]), (1026, .box [AS v1037.1, AS v1037.2.1, AI v1037.2.2]), (1090, .box [AS [], AI 0, AI 0]), (1026, .box [AS [], AS [], AI 0]), (1, .row true 1 (v1004.map (eL 1 vI))), (0, .row true 3 (v50012.map eTurn))] true (con_slices_BinarySearchFunc_STurn_Turn e1048) c26_ok (by simp [List.take_of_length_le]) rfl ?_
      refine qp (.tup [AI v1048.1, AB v1048.2]) rfl (qp (AI v1048.1) rfl (qp (AB v1048.2) rfl (qp (AI v1048.1) rfl (qp (AB v1048.2) rfl ?_))))
      refine r_nil ?_
      refine w_reg 3074 3458 rfl rfl ?_
      refine qp (.sl 0 0 v50012.length) rfl (qp (AI v1048.1) rfl (qp (.agg [AS v1037.2.1, AI (w64 (v1045 + v1037.2.2)), AI v2]) rfl ?_))
      refine qf (.sl 3266 0 ([(v1037.2.1, w64 (v1045 + v1037.2.2), v2)].length)) [(3266, .row true 3 ([(v1037.2.1, w64 (v1045 + v1037.2.2), v2)].map eTurn)), (1858, .box [AS v1037.2.1, AI (w64 (v1045 + v1037.2.2)), AI v2]), (1858, .box [AS [], AI 0, AI 0]), (1090, .box [AS v1039.1, AI v1039.2.1, AI v1039.2.2]), (1026, .box [AS v1037.1, AS v1037.2.1, AI v1037.2.2]), (1090, .box [AS [], AI 0, AI 0]), (1026, .box [AS [], AS [], AI 0]), (1, .row true 1 (v1004.map (eL 1 vI))), (0, .row true 3 (v50012.map eTurn))] (by simp [List.take_of_length_le]) ?_
      obtain ⟨v1049, e1049, hF⟩ := bind_get hF
      refine qX (.sl 3330 0 v1049.length) [(3330, .row true 3 (v1049.map eTurn)), (0, .dead), (3266, .row true 3 ([(v1037.2.1, w64 (v1045 + v1037.2.2), v2)].map eTurn)), (1858, .box [AS v1037.2.1, AI (w64 (v1045 + v1037.2.2)), AI v2]), (1858, .box [AS [], AI 0, AI 0]), (1090, .box [AS v1039.1, AI v1039.2.1, AI v1039.2.2]), (1026, .box [AS v1037.1, AS v1037.2.1, AI v1037.2.2]), (1090, .box [AS [], AI 0, AI 0]), (1026, .box [AS [], AS [], AI 0]), (1, .row true 1 (v1004.map (eL 1 vI))), (0, .row true 3 (v50012.map eTurn))] true rfl rfl (whole_row (by simp)) (con_ins_28 (e := eTurn) e1049) c28_ok (by simp [List.take_of_length_le]) (by simp [RV.r]) ?_
      refine qp (.sl 3330 0 v1049.length) rfl ?_
      refine r_nil ?_
      refine blockQ_n ?_
      refine thenQ_n ?_
      refine w_reg 3458 3586 rfl rfl ?_
      refine qp (AI (w64 (v50011 + 1))) rfl (qp (AI (w64 (v50011 + 1))) rfl ?_)
      refine r_nil ?_
      refine thenQ_n ?_
      refine ar (l' := [(0, AL 3 (v0.map eTurn)), (1, AL 3 (v1.map eAnswer)), (2, AI v2), (8, .sl 0 0 v1049.length), (33, .sl 1 0 v1004.length), (34, AI (v1004.length : Int)), (35, AI (w64 (v50011 + 1)))]) (L := [(1, .row true 1 (v1004.map (eL 1 vI))), (0, .row true 3 (v1049.map eTurn))]) [0, 1, 2, 8, 33, 34, 35] [(1, 1), (3330, 0)] 2 ⟨_, by rfl, hF⟩
   ·
    refine qp (AL 3 (v1.map eAnswer)) rfl (qp (.val (some 1) (.sl 1 (v1035.map vI))) rfl ?_)
    refine qp (.val (some 1) (.ptr [.int .i64 v1036])) (ev_iad_s rfl rfl rfl e1036 rfl) (qp (AI v1036) rfl ?_)
    refine qp (.val none (.ptr [.str v1037.1, .str v1037.2.1, .int .i64 v1037.2.2])) (ev_iad_n rfl rfl e1037 rfl) (qp (.val none (eAnswer v1037)) rfl (qp (AL 3 (v0.map eTurn)) rfl (qp (.val (some 1) (.sl 1 (v1035.map vI))) rfl ?_)))
    refine qp (.val (some 1) (.ptr [.int .i64 v1038])) (ev_iad_s rfl rfl rfl e1038 rfl) (qp (AI v1038) rfl ?_)
    refine qf (.ptr 1026 0 0) [(1026, .box [AS [], AS [], AI 0]), (1, .row true 1 (v1004.map (eL 1 vI))), (0, .row true 3 (v50012.map eTurn))] (by simp) ?_
    refine qf (.ptr 1090 0 0) [(1090, .box [AS [], AI 0, AI 0]), (1026, .box [AS [], AS [], AI 0]), (1, .row true 1 (v1004.map (eL 1 vI))), (0, .row true 3 (v50012.map eTurn))] (by simp) ?_
    refine qf0 (.undef) [(1026, .box [AS v1037.1, AS v1037.2.1, AI v1037.2.2]), (1090, .box [AS [], AI 0, AI 0]), (1026, .box [AS [], AS [], AI 0]), (1, .row true 1 (v1004.map (eL 1 vI))), (0, .row true 3 (v50012.map eTurn))] (by simp) ?_
    refine qp (.val none (.ptr [.str v1039.1, .int .i64 v1039.2.1, .int .i64 v1039.2.2])) (ev_iad_n rfl rfl e1039 rfl) (qp (.val none (eTurn v1039)) rfl ?_)
    refine qf0 (.undef) [(1090, .box [AS v1039.1, AI v1039.2.1, AI v1039.2.2]), (1026, .box [AS v1037.1, AS v1037.2.1, AI v1037.2.2]), (1090, .box [AS [], AI 0, AI 0]), (1026, .box [AS [], AS [], AI 0]), (1, .row true 1 (v1004.map (eL 1 vI))), (0, .row true 3 (v50012.map eTurn))] (by simp) ?_
    refine r_nil ?_
    refine ws 1282 1986 ?_
    refine qp (.ptr 1026 0 1) rfl (qp (AS v1037.2.1) rfl (qp (.agg [AS v1039.1, AI v1039.2.1, AI v1039.2.2]) rfl ?_))
    obtain ⟨v1045, e1045, hF⟩ := bind_get hF
    refine qc (AI v1045) [(1090, .box [AS v1039.1, AI v1039.2.1, AI v1039.2.2]), (1026, .box [AS v1037.1, AS v1037.2.1, AI v1037.2.2]), (1090, .box [AS [], AI 0, AI 0]), (1026, .box [AS [], AS [], AI 0]), (1, .row true 1 (v1004.map (eL 1 vI))), (0, .row true 3 (v50012.map eTurn))] false (con_impl_Turn_end e1045) c23_ok (by first | rfl | simp) rfl ?_
    refine qp (.ptr 1026 0 2) rfl (qp (AI v1037.2.2) rfl (qp (AI (w64 (v1045 + v1037.2.2))) rfl (qp (AI v2) rfl ?_)))
    refine qf (.agg [AS v1037.2.1, AI (w64 (v1045 + v1037.2.2)), AI v2]) [(1090, .box [AS v1039.1, AI v1039.2.1, AI v1039.2.2]), (1026, .box [AS v1037.1, AS v1037.2.1, AI v1037.2.2]), (1090, .box [AS [], AI 0, AI 0]), (1026, .box [AS [], AS [], AI 0]), (1, .row true 1 (v1004.map (eL 1 vI))), (0, .row true 3 (v50012.map eTurn))] (by simp) ?_
    refine qf (.ptr 1858 0 0) [(1858, .box [AS [], AI 0, AI 0]), (1090, .box [AS v1039.1, AI v1039.2.1, AI v1039.2.2]), (1026, .box [AS v1037.1, AS v1037.2.1, AI v1037.2.2]), (1090, .box [AS [], AI 0, AI 0]), (1026, .box [AS [], AS [], AI 0]), (1, .row true 1 (v1004.map (eL 1 vI))), (0, .row true 3 (v50012.map eTurn))] (by simp) ?_
    refine qf0 (.undef) [(1858, .box [AS v1037.2.1, AI (w64 (v1045 + v1037.2.2)), AI v2]), (1858, .box [AS [], AI 0, AI 0]), (1090, .box [AS v1039.1, AI v1039.2.1, AI v1039.2.2]), (1026, .box [AS v1037.1, AS v1037.2.1, AI v1037.2.2]), (1090, .box [AS [], AI 0, AI 0]), (1026, .box [AS [], AS [], AI 0]), (1, .row true 1 (v1004.map (eL 1 vI))), (0, .row true 3 (v50012.map eTurn))] (by simp) ?_
    refine r_nil ?_
    refine w_seq ?_
    refine ws 1986 2370 ?_
    refine qp (.sl 0 0 v50012.length) rfl (qp (.ptr 1858 0 0) rfl (qp (AS v1037.2.1) rfl (qp (.ptr 1858 0 1) rfl (qp (AI (w64 (v1045 + v1037.2.2))) rfl ?_))))
    obtain ⟨v1046, e1046, hF⟩ := bind_get hF
    refine qc (AB v1046) [(1858, .box [AS v1037.2.1, AI (w64 (v1045 + v1037.2.2)), AI v2]), (1858, .box [AS [], AI 0, AI 0]), (1090, .box [AS v1039.1, AI v1039.2.1, AI v1039.2.2]), (1026, .box [AS v1037.1, AS v1037.2.1, AI v1037.2.2]), (1090, .box [AS [], AI 0, AI 0]), (1026, .box [AS [], AS [], AI 0]), (1, .row true 1 (v1004.map (eL 1 vI))), (0, .row true 3 (v50012.map eTurn))] true (con_impl_begins e1046) c24_ok (by simp [List.take_of_length_le]) rfl ?_
    refine r_nil ?_
    refine cF hF (fun hF => ?_) fun hF => ?_
    ·
     refine w_exit ?_
     refine thenQ_e ?_
     refine blockQ_e ?_
     refine thenQ_n ?_
     refine w_reg 2370 2498 rfl rfl ?_
     refine qp (AI (w64 (v50011 + 1))) rfl (qp (AI (w64 (v50011 + 1))) rfl ?_)
     refine r_nil ?_
     refine thenQ_n ?_
     refine ar (l' := [(0, AL 3 (v0.map eTurn)), (1, AL 3 (v1.map eAnswer)), (2, AI v2), (8, .sl 0 0 v50012.length), (33, .sl 1 0 v1004.length), (34, AI (v1004.length : Int)), (35, AI (w64 (v50011 + 1)))]) (L := [(1, .row true 1 (v1004.map (eL 1 vI))), (0, .row true 3 (v50012.map eTurn))]) [0, 1, 2, 8, 33, 34, 35] [(1, 1), (0, 0)] 2 ⟨_, by rfl, hF⟩
    ·
     refine w_skip ?_
     refine thenQ_n ?_
     refine w_seq ?_
     refine ws 2370 2562 ?_
     refine qp (.agg [AS v1037.2.1, AI (w64 (v1045 + v1037.2.2)), AI v2]) rfl ?_
     obtain ⟨v1047, e1047, hF⟩ := bind_get hF
     refine qc (AB v1047) [(1858, .box [AS v1037.2.1, AI (w64 (v1045 + v1037.2.2)), AI v2]), (1858, .box [AS [], AI 0, AI 0]), (1090, .box [AS v1039.1, AI v1039.2.1, AI v1039.2.2]), (1026, .box [AS v1037.1, AS v1037.2.1, AI v1037.2.2]), (1090, .box [AS [], AI 0, AI 0]), (1026, .box [AS [], AS [], AI 0]), (1, .row true 1 (v1004.map (eL 1 vI))), (0, .row true 3 (v50012.map eTurn))] false (con_impl_Turn_valid e1047) c25_ok (by first | rfl | simp) rfl ?_
     refine qp (AB (!v1047)) rfl ?_
     refine r_nil ?_
     refine cF hF (fun hF => ?_) fun hF => ?_
     ·
      refine ws 2562 2690 ?_
      refine qf (.sl 2562 0 0) [(2562, .row true 3 (([] : List TTurn).map eTurn)), (1858, .box [AS v1037.2.1, AI (w64 (v1045 + v1037.2.2)), AI v2]), (1858, .box [AS [], AI 0, AI 0]), (1090, .box [AS v1039.1, AI v1039.2.1, AI v1039.2.2]), (1026, .box [AS v1037.1, AS v1037.2.1, AI v1037.2.2]), (1090, .box [AS [], AI 0, AI 0]), (1026, .box [AS [], AS [], AI 0]), (1, .row true 1 (v1004.map (eL 1 vI))), (0, .row true 3 (v50012.map eTurn))] (by simp) ?_
      refine qp (AI 6) rfl ?_
      refine r_nil ?_
      refine w_ret ?_
      refine thenQ_r ?_
      refine blockQ_r ?_
      refine thenQ_r ?_
      refine thenQ_r ?_
      refine blockQ_r ?_
      refine thenQ_r ?_
      cases hF
      exact eR
     ·
      refine w_skip ?_
      refine thenQ_n ?_
      refine ws 2562 3074 ?_
      refine qp (.sl 0 0 v50012.length) rfl (qp (.agg [AS v1037.2.1, AI (w64 (v1045 + v1037.2.2)), AI v2]) rfl ?_)
      obtain ⟨v1048, e1048, hF⟩ := bind_get hF
      refine qc (.tup [AI v1048.1, AB v1048.2]) [(1858, .box [AS v1037.2.1, AI (w64 (v1045 + v1037.2.2)), AI v2]), (1858, .box [AS [], AI 0, AI 0]), (1090, .box [AS v1039.1, AI v1039.2.1, AI v1039.2.2]), (1026, .box [AS v1037.1, AS v1037.2.1, AI v1037.2.2]), (1090, .box [AS [], AI 0, AI 0]), (1026, .box [AS [], AS [], AI 0]), (1, .row true 1 (v1004.map (eL 1 vI))), (0, .row true 3 (v50012.map eTurn))] true (con_slices_BinarySearchFunc_STurn_Turn e1048) c26_ok (by simp [List.take_of_length_le]) rfl ?_
      refine qp (.tup [AI v1048.1, AB v1048.2]) rfl (qp (AI v1048.1) rfl (qp (AB v1048.2) rfl (qp (AI v1048.1) rfl (qp (AB v1048.2) rfl ?_))))
      refine r_nil ?_
      refine w_reg 3074 3458 rfl rfl ?_
      refine qp (.sl 0 0 v50012.length) rfl (qp (AI v1048.1) rfl (qp (.agg [AS v1037.2.1, AI (w64 (v1045 + v1037.2.2)), AI v2]) rfl ?_))
      refine qf (.sl 3266 0 ([(v1037.2.1, w64 (v1045 + v1037.2.2), v2)].length)) [(3266, .row true 3 ([(v1037.2.1, w64 (v1045 + v1037.2.2), v2)].map eTurn)), (1858, .box [AS v1037.2.1, AI (w64 (v1045 + v1037.2.2)), AI v2]), (1858, .box [AS [], AI 0, AI 0]), (1090, .box [AS v1039.1, AI v1039.2.1, AI v1039.2.2]), (1026, .box [AS v1037.1, AS v1037.2.1, AI v1037.2.2]), (1090, .box [AS [], AI 0, AI 0]), (1026, .box [AS [], AS [], AI 0]), (1, .row true 1 (v1004.map (eL 1 vI))), (0, .row true 3 (v50012.map eTurn))] (by simp [List.take_of_length_le]) ?_
      obtain ⟨v1049, e1049, hF⟩ := bind_get hF
      refine qX (.sl 3330 0 v1049.length) [(3330, .row true 3 (v1049.map eTurn)), (0, .dead), (3266, .row true 3 ([(v1037.2.1, w64 (v1045 + v1037.2.2), v2)].map eTurn)), (1858, .box [AS v1037.2.1, AI (w64 (v1045 + v1037.2.2)), AI v2]), (1858, .box [AS [], AI 0, AI 0]), (1090, .box [AS v1039.1, AI v1039.2.1, AI v1039.2.2]), (1026, .box [AS v1037.1, AS v1037.2.1, AI v1037.2.2]), (1090, .box [AS [], AI 0, AI 0]), (1026, .box [AS [], AS [], AI 0]), (1, .row true 1 (v1004.map (eL 1 vI))), (0, .row true 3 (v50012.map eTurn))] true rfl rfl (whole_row (by simp)) (con_ins_28 (e := eTurn) e1049) c28_ok (by simp [List.take_of_length_le]) (by simp [RV.r]) ?_
      refine qp (.sl 3330 0 v1049.length) rfl ?_
      refine r_nil ?_
      refine blockQ_n ?_
      refine thenQ_n ?_
      refine w_reg 3458 3586 rfl rfl ?_
      refine qp (AI (w64 (v50011 + 1))) rfl (qp (AI (w64 (v50011 + 1))) rfl ?_)
      refine r_nil ?_
      refine thenQ_n ?_
      refine ar (l' := [(0, AL 3 (v0.map eTurn)), (1, AL 3 (v1.map eAnswer)), (2, AI v2), (8, .sl 0 0 v1049.length), (33, .sl 1 0 v1004.length), (34, AI (v1004.length : Int)), (35, AI (w64 (v50011 + 1)))]) (L := [(1, .row true 1 (v1004.map (eL 1 vI))), (0, .row true 3 (v1049.map eTurn))]) [0, 1, 2, 8, 33, 34, 35] [(1, 1), (3330, 0)] 2 ⟨_, by rfl, hF⟩
   ·
    refine qp (AL 3 (v1.map eAnswer)) rfl (qp (.val (some 1) (.sl 1 (v1035.map vI))) rfl ?_)
    refine qp (.val (some 1) (.ptr [.int .i64 v1036])) (ev_iad_s rfl rfl rfl e1036 rfl) (qp (AI v1036) rfl ?_)
    refine qp (.val none (.ptr [.str v1037.1, .str v1037.2.1, .int .i64 v1037.2.2])) (ev_iad_n rfl rfl e1037 rfl) (qp (.val none (eAnswer v1037)) rfl (qp (AL 3 (v0.map eTurn)) rfl (qp (.val (some 1) (.sl 1 (v1035.map vI))) rfl ?_)))
    refine qp (.val (some 1) (.ptr [.int .i64 v1038])) (ev_iad_s rfl rfl rfl e1038 rfl) ?_
    refine qf (.ptr 1026 0 0) [(1026, .box [AS [], AS [], AI 0]), (1, .row true 1 (v1004.map (eL 1 vI))), (0, .row true 3 (v50012.map eTurn))] (by simp) ?_
    refine qf (.ptr 1090 0 0) [(1090, .box [AS [], AI 0, AI 0]), (1026, .box [AS [], AS [], AI 0]), (1, .row true 1 (v1004.map (eL 1 vI))), (0, .row true 3 (v50012.map eTurn))] (by simp) ?_
    refine qf0 (.undef) [(1026, .box [AS v1037.1, AS v1037.2.1, AI v1037.2.2]), (1090, .box [AS [], AI 0, AI 0]), (1026, .box [AS [], AS [], AI 0]), (1, .row true 1 (v1004.map (eL 1 vI))), (0, .row true 3 (v50012.map eTurn))] (by simp) ?_
    refine qp (AI v1038) rfl ?_
    refine qp (.val none (.ptr [.str v1039.1, .int .i64 v1039.2.1, .int .i64 v1039.2.2])) (ev_iad_n rfl rfl e1039 rfl) (qp (.val none (eTurn v1039)) rfl ?_)
    refine qf0 (.undef) [(1090, .box [AS v1039.1, AI v1039.2.1, AI v1039.2.2]), (1026, .box [AS v1037.1, AS v1037.2.1, AI v1037.2.2]), (1090, .box [AS [], AI 0, AI 0]), (1026, .box [AS [], AS [], AI 0]), (1, .row true 1 (v1004.map (eL 1 vI))), (0, .row true 3 (v50012.map eTurn))] (by simp) ?_
    refine r_nil ?_
    refine ws 1282 1986 ?_
    refine qp (.ptr 1026 0 1) rfl (qp (AS v1037.2.1) rfl (qp (.agg [AS v1039.1, AI v1039.2.1, AI v1039.2.2]) rfl ?_))
    obtain ⟨v1045, e1045, hF⟩ := bind_get hF
    refine qc (AI v1045) [(1090, .box [AS v1039.1, AI v1039.2.1, AI v1039.2.2]), (1026, .box [AS v1037.1, AS v1037.2.1, AI v1037.2.2]), (1090, .box [AS [], AI 0, AI 0]), (1026, .box [AS [], AS [], AI 0]), (1, .row true 1 (v1004.map (eL 1 vI))), (0, .row true 3 (v50012.map eTurn))] false (con_impl_Turn_end e1045) c23_ok (by first | rfl | simp) rfl ?_
    refine qp (.ptr 1026 0 2) rfl (qp (AI v1037.2.2) rfl (qp (AI (w64 (v1045 + v1037.2.2))) rfl (qp (AI v2) rfl ?_)))
    refine qf (.agg [AS v1037.2.1, AI (w64 (v1045 + v1037.2.2)), AI v2]) [(1090, .box [AS v1039.1, AI v1039.2.1, AI v1039.2.2]), (1026, .box [AS v1037.1, AS v1037.2.1, AI v1037.2.2]), (1090, .box [AS [], AI 0, AI 0]), (1026, .box [AS [], AS [], AI 0]), (1, .row true 1 (v1004.map (eL 1 vI))), (0, .row true 3 (v50012.map eTurn))] (by simp) ?_
    refine qf (.ptr 1858 0 0) [(1858, .box [AS [], AI 0, AI 0]), (1090, .box [AS v1039.1, AI v1039.2.1, AI v1039.2.2]), (1026, .box [AS v1037.1, AS v1037.2.1, AI v1037.2.2]), (1090, .box [AS [], AI 0, AI 0]), (1026, .box [AS [], AS [], AI 0]), (1, .row true 1 (v1004.map (eL 1 vI))), (0, .row true 3 (v50012.map eTurn))] (by simp) ?_
    refine qf0 (.undef) [(1858, .box [AS v1037.2.1, AI (w64 (v1045 + v1037.2.2)), AI v2]), (1858, .box [AS [], AI 0, AI 0]), (1090, .box [AS v1039.1, AI v1039.2.1, AI v1039.2.2]), (1026, .box [AS v1037.1, AS v1037.2.1, AI v1037.2.2]), (1090, .box [AS [], AI 0, AI 0]), (1026, .box [AS [], AS [], AI 0]), (1, .row true 1 (v1004.map (eL 1 vI))), (0, .row true 3 (v50012.map eTurn))] (by simp) ?_
    refine r_nil ?_
    refine w_seq ?_
    refine ws 1986 2370 ?_
    refine qp (.sl 0 0 v50012.length) rfl (qp (.ptr 1858 0 0) rfl (qp (AS v1037.2.1) rfl (qp (.ptr 1858 0 1) rfl (qp (AI (w64 (v1045 + v1037.2.2))) rfl ?_))))
    obtain ⟨v1046, e1046, hF⟩ := bind_get hF
    refine qc (AB v1046) [(1858, .box [AS v1037.2.1, AI (w64 (v1045 + v1037.2.2)), AI v2]), (1858, .box [AS [], AI 0, AI 0]), (1090, .box [AS v1039.1, AI v1039.2.1, AI v1039.2.2]), (1026, .box [AS v1037.1, AS v1037.2.1, AI v1037.2.2]), (1090, .box [AS [], AI 0, AI 0]), (1026, .box [AS [], AS [], AI 0]), (1, .row true 1 (v1004.map (eL 1 vI))), (0, .row true 3 (v50012.map eTurn))] true (con_impl_begins e1046) c24_ok (by simp [List.take_of_length_le]) rfl ?_
    refine r_nil ?_
    refine cF hF (fun hF => ?_) fun hF => ?_
    ·
     refine w_exit ?_
     refine thenQ_e ?_
     refine blockQ_e ?_
     refine thenQ_n ?_
     refine w_reg 2370 2498 rfl rfl ?_
     refine qp (AI (w64 (v50011 + 1))) rfl (qp (AI (w64 (v50011 + 1))) rfl ?_)
     refine r_nil ?_
     refine thenQ_n ?_
     refine ar (l' := [(0, AL 3 (v0.map eTurn)), (1, AL 3 (v1.map eAnswer)), (2, AI v2), (8, .sl 0 0 v50012.length), (33, .sl 1 0 v1004.length), (34, AI (v1004.length : Int)), (35, AI (w64 (v50011 + 1)))]) (L := [(1, .row true 1 (v1004.map (eL 1 vI))), (0, .row true 3 (v50012.map eTurn))]) [0, 1, 2, 8, 33, 34, 35] [(1, 1), (0, 0)] 2 ⟨_, by rfl, hF⟩
    ·
     refine w_skip ?_
     refine thenQ_n ?_
     refine w_seq ?_
     refine ws 2370 2562 ?_
     refine qp (.agg [AS v1037.2.1, AI (w64 (v1045 + v1037.2.2)), AI v2]) rfl ?_
     obtain ⟨v1047, e1047, hF⟩ := bind_get hF
     refine qc (AB v1047) [(1858, .box [AS v1037.2.1, AI (w64 (v1045 + v1037.2.2)), AI v2]), (1858, .box [AS [], AI 0, AI 0]), (1090, .box [AS v1039.1, AI v1039.2.1, AI v1039.2.2]), (1026, .box [AS v1037.1, AS v1037.2.1, AI v1037.2.2]), (1090, .box [AS [], AI 0, AI 0]), (1026, .box [AS [], AS [], AI 0]), (1, .row true 1 (v1004.map (eL 1 vI))), (0, .row true 3 (v50012.map eTurn))] false (con_impl_Turn_valid e1047) c25_ok (by first | rfl | simp) rfl ?_
     refine qp (AB (!v1047)) rfl ?_
     refine r_nil ?_
     refine cF hF (fun hF => ?_) fun hF => ?_
     ·
      refine ws 2562 2690 ?_
      refine qf (.sl 2562 0 0) [(2562, .row true 3 (([] : List TTurn).map eTurn)), (1858, .box [AS v1037.2.1, AI (w64 (v1045 + v1037.2.2)), AI v2]), (1858, .box [AS [], AI 0, AI 0]), (1090, .box [AS v1039.1, AI v1039.2.1, AI v1039.2.2]), (1026, .box [AS v1037.1, AS v1037.2.1, AI v1037.2.2]), (1090, .box [AS [], AI 0, AI 0]), (1026, .box [AS [], AS [], AI 0]), (1, .row true 1 (v1004.map (eL 1 vI))), (0, .row true 3 (v50012.map eTurn))] (by simp) ?_
      refine qp (AI 6) rfl ?_
      refine r_nil ?_
      refine w_ret ?_
      refine thenQ_r ?_
      refine blockQ_r ?_
      refine thenQ_r ?_
      refine thenQ_r ?_
      refine blockQ_r ?_
      refine thenQ_r ?_
      cases hF
      exact eR
     ·
      refine w_skip ?_
      refine thenQ_n ?_
      refine ws 2562 3074 ?_
      refine qp (.sl 0 0 v50012.length) rfl (qp (.agg [AS v1037.2.1, AI (w64 (v1045 + v1037.2.2)), AI v2]) rfl ?_)
      obtain ⟨v1048, e1048, hF⟩ := bind_get hF
      refine qc (.tup [AI v1048.1, AB v1048.2]) [(1858, .box [AS v1037.2.1, AI (w64 (v1045 + v1037.2.2)), AI v2]), (1858, .box [AS [], AI 0, AI 0]), (1090, .box [AS v1039.1, AI v1039.2.1, AI v1039.2.2]), (1026, .box [AS v1037.1, AS v1037.2.1, AI v1037.2.2]), (1090, .box [AS [], AI 0, AI 0]), (1026, .box [AS [], AS [], AI 0]), (1, .row true 1 (v1004.map (eL 1 vI))), (0, .row true 3 (v50012.map eTurn))] true (con_slices_BinarySearchFunc_STurn_Turn e1048) c26_ok (by simp [List.take_of_length_le]) rfl ?_
      refine qp (.tup [AI v1048.1, AB v1048.2]) rfl (qp (AI v1048.1) rfl (qp (AB v1048.2) rfl (qp (AI v1048.1) rfl (qp (AB v1048.2) rfl ?_))))
      refine r_nil ?_
      refine w_reg 3074 3458 rfl rfl ?_
      refine qp (.sl 0 0 v50012.length) rfl (qp (AI v1048.1) rfl (qp (.agg [AS v1037.2.1, AI (w64 (v1045 + v1037.2.2)), AI v2]) rfl ?_))
      refine qf (.sl 3266 0 ([(v1037.2.1, w64 (v1045 + v1037.2.2), v2)].length)) [(3266, .row true 3 ([(v1037.2.1, w64 (v1045 + v1037.2.2), v2)].map eTurn)), (1858, .box [AS v1037.2.1, AI (w64 (v1045 + v1037.2.2)), AI v2]), (1858, .box [AS [], AI 0, AI 0]), (1090, .box [AS v1039.1, AI v1039.2.1, AI v1039.2.2]), (1026, .box [AS v1037.1, AS v1037.2.1, AI v1037.2.2]), (1090, .box [AS [], AI 0, AI 0]), (1026, .box [AS [], AS [], AI 0]), (1, .row true 1 (v1004.map (eL 1 vI))), (0, .row true 3 (v50012.map eTurn))] (by simp [List.take_of_length_le]) ?_
      obtain ⟨v1049, e1049, hF⟩ := bind_get hF
      refine qX (.sl 3330 0 v1049.length) [(3330, .row true 3 (v1049.map eTurn)), (0, .dead), (3266, .row true 3 ([(v1037.2.1, w64 (v1045 + v1037.2.2), v2)].map eTurn)), (1858, .box [AS v1037.2.1, AI (w64 (v1045 + v1037.2.2)), AI v2]), (1858, .box [AS [], AI 0, AI 0]), (1090, .box [AS v1039.1, AI v1039.2.1, AI v1039.2.2]), (1026, .box [AS v1037.1, AS v1037.2.1, AI v1037.2.2]), (1090, .box [AS [], AI 0, AI 0]), (1026, .box [AS [], AS [], AI 0]), (1, .row true 1 (v1004.map (eL 1 vI))), (0, .row true 3 (v50012.map eTurn))] true rfl rfl (whole_row (by simp)) (con_ins_28 (e := eTurn) e1049) c28_ok (by simp [List.take_of_length_le]) (by simp [RV.r]) ?_
      refine qp (.sl 3330 0 v1049.length) rfl ?_
      refine r_nil ?_
      refine blockQ_n ?_
      refine thenQ_n ?_
      refine w_reg 3458 3586 rfl rfl ?_
      refine qp (AI (w64 (v50011 + 1))) rfl (qp (AI (w64 (v50011 + 1))) rfl ?_)
      refine r_nil ?_
      refine thenQ_n ?_
      refine ar (l' := [(0, AL 3 (v0.map eTurn)), (1, AL 3 (v1.map eAnswer)), (2, AI v2), (8, .sl 0 0 v1049.length), (33, .sl 1 0 v1004.length), (34, AI (v1004.length : Int)), (35, AI (w64 (v50011 + 1)))]) (L := [(1, .row true 1 (v1004.map (eL 1 vI))), (0, .row true 3 (v1049.map eTurn))]) [0, 1, 2, 8, 33, 34, 35] [(1, 1), (3330, 0)] 2 ⟨_, by rfl, hF⟩
   ·
    refine qp (AL 3 (v1.map eAnswer)) rfl (qp (.val (some 1) (.sl 1 (v1035.map vI))) rfl ?_)
    refine qp (.val (some 1) (.ptr [.int .i64 v1036])) (ev_iad_s rfl rfl rfl e1036 rfl) (qp (AI v1036) rfl ?_)
    refine qp (.val none (.ptr [.str v1037.1, .str v1037.2.1, .int .i64 v1037.2.2])) (ev_iad_n rfl rfl e1037 rfl) (qp (.val none (eAnswer v1037)) rfl (qp (AL 3 (v0.map eTurn)) rfl (qp (.val (some 1) (.sl 1 (v1035.map vI))) rfl ?_)))
    refine qf (.ptr 1026 0 0) [(1026, .box [AS [], AS [], AI 0]), (1, .row true 1 (v1004.map (eL 1 vI))), (0, .row true 3 (v50012.map eTurn))] (by simp) ?_
    refine qf (.ptr 1090 0 0) [(1090, .box [AS [], AI 0, AI 0]), (1026, .box [AS [], AS [], AI 0]), (1, .row true 1 (v1004.map (eL 1 vI))), (0, .row true 3 (v50012.map eTurn))] (by simp) ?_
    refine qf0 (.undef) [(1026, .box [AS v1037.1, AS v1037.2.1, AI v1037.2.2]), (1090, .box [AS [], AI 0, AI 0]), (1026, .box [AS [], AS [], AI 0]), (1, .row true 1 (v1004.map (eL 1 vI))), (0, .row true 3 (v50012.map eTurn))] (by simp) ?_
    refine qp (.val (some 1) (.ptr [.int .i64 v1038])) (ev_iad_s rfl rfl rfl e1038 rfl) (qp (AI v1038) rfl ?_)
    refine qp (.val none (.ptr [.str v1039.1, .int .i64 v1039.2.1, .int .i64 v1039.2.2])) (ev_iad_n rfl rfl e1039 rfl) (qp (.val none (eTurn v1039)) rfl ?_)
    refine qf0 (.undef) [(1090, .box [AS v1039.1, AI v1039.2.1, AI v1039.2.2]), (1026, .box [AS v1037.1, AS v1037.2.1, AI v1037.2.2]), (1090, .box [AS [], AI 0, AI 0]), (1026, .box [AS [], AS [], AI 0]), (1, .row true 1 (v1004.map (eL 1 vI))), (0, .row true 3 (v50012.map eTurn))] (by simp) ?_
    refine r_nil ?_
    refine ws 1282 1986 ?_
    refine qp (.ptr 1026 0 1) rfl (qp (AS v1037.2.1) rfl (qp (.agg [AS v1039.1, AI v1039.2.1, AI v1039.2.2]) rfl ?_))
    obtain ⟨v1045, e1045, hF⟩ := bind_get hF
    refine qc (AI v1045) [(1090, .box [AS v1039.1, AI v1039.2.1, AI v1039.2.2]), (1026, .box [AS v1037.1, AS v1037.2.1, AI v1037.2.2]), (1090, .box [AS [], AI 0, AI 0]), (1026, .box [AS [], AS [], AI 0]), (1, .row true 1 (v1004.map (eL 1 vI))), (0, .row true 3 (v50012.map eTurn))] false (con_impl_Turn_end e1045) c23_ok (by first | rfl | simp) rfl ?_
    refine qp (.ptr 1026 0 2) rfl (qp (AI v1037.2.2) rfl (qp (AI (w64 (v1045 + v1037.2.2))) rfl (qp (AI v2) rfl ?_)))
    refine qf (.agg [AS v1037.2.1, AI (w64 (v1045 + v1037.2.2)), AI v2]) [(1090, .box [AS v1039.1, AI v1039.2.1, AI v1039.2.2]), (1026, .box [AS v1037.1, AS v1037.2.1, AI v1037.2.2]), (1090, .box [AS [], AI 0, AI 0]), (1026, .box [AS [], AS [], AI 0]), (1, .row true 1 (v1004.map (eL 1 vI))), (0, .row true 3 (v50012.map eTurn))] (by simp) ?_
    refine qf (.ptr 1858 0 0) [(1858, .box [AS [], AI 0, AI 0]), (1090, .box [AS v1039.1, AI v1039.2.1, AI v1039.2.2]), (1026, .box [AS v1037.1, AS v1037.2.1, AI v1037.2.2]), (1090, .box [AS [], AI 0, AI 0]), (1026, .box [AS [], AS [], AI 0]), (1, .row true 1 (v1004.map (eL 1 vI))), (0, .row true 3 (v50012.map eTurn))] (by simp) ?_
    refine qf0 (.undef) [(1858, .box [AS v1037.2.1, AI (w64 (v1045 + v1037.2.2)), AI v2]), (1858, .box [AS [], AI 0, AI 0]), (1090, .box [AS v1039.1, AI v1039.2.1, AI v1039.2.2]), (1026, .box [AS v1037.1, AS v1037.2.1, AI v1037.2.2]), (1090, .box [AS [], AI 0, AI 0]), (1026, .box [AS [], AS [], AI 0]), (1, .row true 1 (v1004.map (eL 1 vI))), (0, .row true 3 (v50012.map eTurn))] (by simp) ?_
    refine r_nil ?_
    refine w_seq ?_
    refine ws 1986 2370 ?_
    refine qp (.sl 0 0 v50012.length) rfl (qp (.ptr 1858 0 0) rfl (qp (AS v1037.2.1) rfl (qp (.ptr 1858 0 1) rfl (qp (AI (w64 (v1045 + v1037.2.2))) rfl ?_))))
    obtain ⟨v1046, e1046, hF⟩ := bind_get hF
    refine qc (AB v1046) [(1858, .box [AS v1037.2.1, AI (w64 (v1045 + v1037.2.2)), AI v2]), (1858, .box [AS [], AI 0, AI 0]), (1090, .box [AS v1039.1, AI v1039.2.1, AI v1039.2.2]), (1026, .box [AS v1037.1, AS v1037.2.1, AI v1037.2.2]), (1090, .box [AS [], AI 0, AI 0]), (1026, .box [AS [], AS [], AI 0]), (1, .row true 1 (v1004.map (eL 1 vI))), (0, .row true 3 (v50012.map eTurn))] true (con_impl_begins e1046) c24_ok (by simp [List.take_of_length_le]) rfl ?_
    refine r_nil ?_
    refine cF hF (fun hF => ?_) fun hF => ?_
    ·
     refine w_exit ?_
     refine thenQ_e ?_
     refine blockQ_e ?_
     refine thenQ_n ?_
     refine w_reg 2370 2498 rfl rfl ?_
     refine qp (AI (w64 (v50011 + 1))) rfl (qp (AI (w64 (v50011 + 1))) rfl ?_)
     refine r_nil ?_
     refine thenQ_n ?_
     refine ar (l' := [(0, AL 3 (v0.map eTurn)), (1, AL 3 (v1.map eAnswer)), (2, AI v2), (8, .sl 0 0 v50012.length), (33, .sl 1 0 v1004.length), (34, AI (v1004.length : Int)), (35, AI (w64 (v50011 + 1)))]) (L := [(1, .row true 1 (v1004.map (eL 1 vI))), (0, .row true 3 (v50012.map eTurn))]) [0, 1, 2, 8, 33, 34, 35] [(1, 1), (0, 0)] 2 ⟨_, by rfl, hF⟩
    ·
     refine w_skip ?_
     refine thenQ_n ?_
     refine w_seq ?_
     refine ws 2370 2562 ?_
     refine qp (.agg [AS v1037.2.1, AI (w64 (v1045 + v1037.2.2)), AI v2]) rfl ?_
     obtain ⟨v1047, e1047, hF⟩ := bind_get hF
     refine qc (AB v1047) [(1858, .box [AS v1037.2.1, AI (w64 (v1045 + v1037.2.2)), AI v2]), (1858, .box [AS [], AI 0, AI 0]), (1090, .box [AS v1039.1, AI v1039.2.1, AI v1039.2.2]), (1026, .box [AS v1037.1, AS v1037.2.1, AI v1037.2.2]), (1090, .box [AS [], AI 0, AI 0]), (1026, .box [AS [], AS [], AI 0]), (1, .row true 1 (v1004.map (eL 1 vI))), (0, .row true 3 (v50012.map eTurn))] false (con_impl_Turn_valid e1047) c25_ok (by first | rfl | simp) rfl ?_
     refine qp (AB (!v1047)) rfl ?_
     refine r_nil ?_
     refine cF hF (fun hF => ?_) fun hF => ?_
     ·
      refine ws 2562 2690 ?_
      refine qf (.sl 2562 0 0) [(2562, .row true 3 (([] : List TTurn).map eTurn)), (1858, .box [AS v1037.2.1, AI (w64 (v1045 + v1037.2.2)), AI v2]), (1858, .box [AS [], AI 0, AI 0]), (1090, .box [AS v1039.1, AI v1039.2.1, AI v1039.2.2]), (1026, .box [AS v1037.1, AS v1037.2.1, AI v1037.2.2]), (1090, .box [AS [], AI 0, AI 0]), (1026, .box [AS [], AS [], AI 0]), (1, .row true 1 (v1004.map (eL 1 vI))), (0, .row true 3 (v50012.map eTurn))] (by simp) ?_
      refine qp (AI 6) rfl ?_
      refine r_nil ?_
      refine w_ret ?_
      refine thenQ_r ?_
      refine blockQ_r ?_
      refine thenQ_r ?_
      refine thenQ_r ?_
      refine blockQ_r ?_
      refine thenQ_r ?_
      cases hF
      exact eR
     ·
      refine w_skip ?_
      refine thenQ_n ?_
      refine ws 2562 3074 ?_
      refine qp (.sl 0 0 v50012.length) rfl (qp (.agg [AS v1037.2.1, AI (w64 (v1045 + v1037.2.2)), AI v2]) rfl ?_)
      obtain ⟨v1048, e1048, hF⟩ := bind_get hF
      refine qc (.tup [AI v1048.1, AB v1048.2]) [(1858, .box [AS v1037.2.1, AI (w64 (v1045 + v1037.2.2)), AI v2]), (1858, .box [AS [], AI 0, AI 0]), (1090, .box [AS v1039.1, AI v1039.2.1, AI v1039.2.2]), (1026, .box [AS v1037.1, AS v1037.2.1, AI v1037.2.2]), (1090, .box [AS [], AI 0, AI 0]), (1026, .box [AS [], AS [], AI 0]), (1, .row true 1 (v1004.map (eL 1 vI))), (0, .row true 3 (v50012.map eTurn))] true (con_slices_BinarySearchFunc_STurn_Turn e1048) c26_ok (by simp [List.take_of_length_le]) rfl ?_
      refine qp (.tup [AI v1048.1, AB v1048.2]) rfl (qp (AI v1048.1) rfl (qp (AB v1048.2) rfl (qp (AI v1048.1) rfl (qp (AB v1048.2) rfl ?_))))
      refine r_nil ?_
      refine w_reg 3074 3458 rfl rfl ?_
      refine qp (.sl 0 0 v50012.length) rfl (qp (AI v1048.1) rfl (qp (.agg [AS v1037.2.1, AI (w64 (v1045 + v1037.2.2)), AI v2]) rfl ?_))
      refine qf (.sl 3266 0 ([(v1037.2.1, w64 (v1045 + v1037.2.2), v2)].length)) [(3266, .row true 3 ([(v1037.2.1, w64 (v1045 + v1037.2.2), v2)].map eTurn)), (1858, .box [AS v1037.2.1, AI (w64 (v1045 + v1037.2.2)), AI v2]), (1858, .box [AS [], AI 0, AI 0]), (1090, .box [AS v1039.1, AI v1039.2.1, AI v1039.2.2]), (1026, .box [AS v1037.1, AS v1037.2.1, AI v1037.2.2]), (1090, .box [AS [], AI 0, AI 0]), (1026, .box [AS [], AS [], AI 0]), (1, .row true 1 (v1004.map (eL 1 vI))), (0, .row true 3 (v50012.map eTurn))] (by simp [List.take_of_length_le]) ?_
      obtain ⟨v1049, e1049, hF⟩ := bind_get hF
      refine qX (.sl 3330 0 v1049.length) [(3330, .row true 3 (v1049.map eTurn)), (0, .dead), (3266, .row true 3 ([(v1037.2.1, w64 (v1045 + v1037.2.2), v2)].map eTurn)), (1858, .box [AS v1037.2.1, AI (w64 (v1045 + v1037.2.2)), AI v2]), (1858, .box [AS [], AI 0, AI 0]), (1090, .box [AS v1039.1, AI v1039.2.1, AI v1039.2.2]), (1026, .box [AS v1037.1, AS v1037.2.1, AI v1037.2.2]), (1090, .box [AS [], AI 0, AI 0]), (1026, .box [AS [], AS [], AI 0]), (1, .row true 1 (v1004.map (eL 1 vI))), (0, .row true 3 (v50012.map eTurn))] true rfl rfl (whole_row (by simp)) (con_ins_28 (e := eTurn) e1049) c28_ok (by simp [List.take_of_length_le]) (by simp [RV.r]) ?_
      refine qp (.sl 3330 0 v1049.length) rfl ?_
      refine r_nil ?_
      refine blockQ_n ?_
      refine thenQ_n ?_
      refine w_reg 3458 3586 rfl rfl ?_
      refine qp (AI (w64 (v50011 + 1))) rfl (qp (AI (w64 (v50011 + 1))) rfl ?_)
      refine r_nil ?_
      refine thenQ_n ?_
      refine ar (l' := [(0, AL 3 (v0.map eTurn)), (1, AL 3 (v1.map eAnswer)), (2, AI v2), (8, .sl 0 0 v1049.length), (33, .sl 1 0 v1004.length), (34, AI (v1004.length : Int)), (35, AI (w64 (v50011 + 1)))]) (L := [(1, .row true 1 (v1004.map (eL 1 vI))), (0, .row true 3 (v1049.map eTurn))]) [0, 1, 2, 8, 33, 34, 35] [(1, 1), (3330, 0)] 2 ⟨_, by rfl, hF⟩
   ·
    refine qp (AL 3 (v1.map eAnswer)) rfl (qp (.val (some 1) (.sl 1 (v1035.map vI))) rfl ?_)
    refine qp (.val (some 1) (.ptr [.int .i64 v1036])) (ev_iad_s rfl rfl rfl e1036 rfl) (qp (AI v1036) rfl ?_)
    refine qp (.val none (.ptr [.str v1037.1, .str v1037.2.1, .int .i64 v1037.2.2])) (ev_iad_n rfl rfl e1037 rfl) (qp (.val none (eAnswer v1037)) rfl (qp (AL 3 (v0.map eTurn)) rfl ?_))
    refine qf (.ptr 1026 0 0) [(1026, .box [AS [], AS [], AI 0]), (1, .row true 1 (v1004.map (eL 1 vI))), (0, .row true 3 (v50012.map eTurn))] (by simp) ?_
    refine qf (.ptr 1090 0 0) [(1090, .box [AS [], AI 0, AI 0]), (1026, .box [AS [], AS [], AI 0]), (1, .row true 1 (v1004.map (eL 1 vI))), (0, .row true 3 (v50012.map eTurn))] (by simp) ?_
    refine qf0 (.undef) [(1026, .box [AS v1037.1, AS v1037.2.1, AI v1037.2.2]), (1090, .box [AS [], AI 0, AI 0]), (1026, .box [AS [], AS [], AI 0]), (1, .row true 1 (v1004.map (eL 1 vI))), (0, .row true 3 (v50012.map eTurn))] (by simp) ?_
    refine qp (.val (some 1) (.sl 1 (v1035.map vI))) rfl ?_
    refine qp (.val (some 1) (.ptr [.int .i64 v1038])) (ev_iad_s rfl rfl rfl e1038 rfl) (qp (AI v1038) rfl ?_)
    refine qp (.val none (.ptr [.str v1039.1, .int .i64 v1039.2.1, .int .i64 v1039.2.2])) (ev_iad_n rfl rfl e1039 rfl) (qp (.val none (eTurn v1039)) rfl ?_)
    refine qf0 (.undef) [(1090, .box [AS v1039.1, AI v1039.2.1, AI v1039.2.2]), (1026, .box [AS v1037.1, AS v1037.2.1, AI v1037.2.2]), (1090, .box [AS [], AI 0, AI 0]), (1026, .box [AS [], AS [], AI 0]), (1, .row true 1 (v1004.map (eL 1 vI))), (0, .row true 3 (v50012.map eTurn))] (by simp) ?_
    refine r_nil ?_
    refine ws 1282 1986 ?_
    refine qp (.ptr 1026 0 1) rfl (qp (AS v1037.2.1) rfl (qp (.agg [AS v1039.1, AI v1039.2.1, AI v1039.2.2]) rfl ?_))
    obtain ⟨v1045, e1045, hF⟩ := bind_get hF
    refine qc (AI v1045) [(1090, .box [AS v1039.1, AI v1039.2.1, AI v1039.2.2]), (1026, .box [AS v1037.1, AS v1037.2.1, AI v1037.2.2]), (1090, .box [AS [], AI 0, AI 0]), (1026, .box [AS [], AS [], AI 0]), (1, .row true 1 (v1004.map (eL 1 vI))), (0, .row true 3 (v50012.map eTurn))] false (con_impl_Turn_end e1045) c23_ok (by first | rfl | simp) rfl ?_
    refine qp (.ptr 1026 0 2) rfl (qp (AI v1037.2.2) rfl (qp (AI (w64 (v1045 + v1037.2.2))) rfl (qp (AI v2) rfl ?_)))
    refine qf (.agg [AS v1037.2.1, AI (w64 (v1045 + v1037.2.2)), AI v2]) [(1090, .box [AS v1039.1, AI v1039.2.1, AI v1039.2.2]), (1026, .box [AS v1037.1, AS v1037.2.1, AI v1037.2.2]), (1090, .box [AS [], AI 0, AI 0]), (1026, .box [AS [], AS [], AI 0]), (1, .row true 1 (v1004.map (eL 1 vI))), (0, .row true 3 (v50012.map eTurn))] (by simp) ?_
    refine qf (.ptr 1858 0 0) [(1858, .box [AS [], AI 0, AI 0]), (1090, .box [AS v1039.1, AI v1039.2.1, AI v1039.2.2]), (1026, .box [AS v1037.1, AS v1037.2.1, AI v1037.2.2]), (1090, .box [AS [], AI 0, AI 0]), (1026, .box [AS [], AS [], AI 0]), (1, .row true 1 (v1004.map (eL 1 vI))), (0, .row true 3 (v50012.map eTurn))] (by simp) ?_
    refine qf0 (.undef) [(1858, .box [AS v1037.2.1, AI (w64 (v1045 + v1037.2.2)), AI v2]), (1858, .box [AS [], AI 0, AI 0]), (1090, .box [AS v1039.1, AI v1039.2.1, AI v1039.2.2]), (1026, .box [AS v1037.1, AS v1037.2.1, AI v1037.2.2]), (1090, .box [AS [], AI 0, AI 0]), (1026, .box [AS [], AS [], AI 0]), (1, .row true 1 (v1004.map (eL 1 vI))), (0, .row true 3 (v50012.map eTurn))] (by simp) ?_
    refine r_nil ?_
    refine w_seq ?_
    refine ws 1986 2370 ?_
    refine qp (.sl 0 0 v50012.length) rfl (qp (.ptr 1858 0 0) rfl (qp (AS v1037.2.1) rfl (qp (.ptr 1858 0 1) rfl (qp (AI (w64 (v1045 + v1037.2.2))) rfl ?_))))
    obtain ⟨v1046, e1046, hF⟩ := bind_get hF
    refine qc (AB v1046) [(1858, .box [AS v1037.2.1, AI (w64 (v1045 + v1037.2.2)), AI v2]), (1858, .box [AS [], AI 0, AI 0]), (1090, .box [AS v1039.1, AI v1039.2.1, AI v1039.2.2]), (1026, .box [AS v1037.1, AS v1037.2.1, AI v1037.2.2]), (1090, .box [AS [], AI 0, AI 0]), (1026, .box [AS [], AS [], AI 0]), (1, .row true 1 (v1004.map (eL 1 vI))), (0, .row true 3 (v50012.map eTurn))] true (con_impl_begins e1046) c24_ok (by simp [List.take_of_length_le]) rfl ?_
    refine r_nil ?_
    refine cF hF (fun hF => ?_) fun hF => ?_
    ·
     refine w_exit ?_
     refine thenQ_e ?_
     refine blockQ_e ?_
     refine thenQ_n ?_
     refine w_reg 2370 2498 rfl rfl ?_
     refine qp (AI (w64 (v50011 + 1))) rfl (qp (AI (w64 (v50011 + 1))) rfl ?_)
     refine r_nil ?_
     refine thenQ_n ?_
     refine ar (l' := [(0, AL 3 (v0.map eTurn)), (1, AL 3 (v1.map eAnswer)), (2, AI v2), (8, .sl 0 0 v50012.length), (33, .sl 1 0 v1004.length), (34, AI (v1004.length : Int)), (35, AI (w64 (v50011 + 1)))]) (L := [(1, .row true 1 (v1004.map (eL 1 vI))), (0, .row true 3 (v50012.map eTurn))]) [0, 1, 2, 8, 33, 34, 35] [(1, 1), (0, 0)] 2 ⟨_, by rfl, hF⟩
    ·
     refine w_skip ?_
     refine thenQ_n ?_
     refine w_seq ?_
     refine ws 2370 2562 ?_
     refine qp (.agg [AS v1037.2.1, AI (w64 (v1045 + v1037.2.2)), AI v2]) rfl ?_
     obtain ⟨v1047, e1047, hF⟩ := bind_get hF
     refine qc (AB v1047) [(1858, .box [AS v1037.2.1, AI (w64 (v1045 + v1037.2.2)), AI v2]), (1858, .box [AS [], AI 0, AI 0]), (1090, .box [AS v1039.1, AI v1039.2.1, AI v1039.2.2]), (1026, .box [AS v1037.1, AS v1037.2.1, AI v1037.2.2]), (1090, .box [AS [], AI 0, AI 0]), (1026, .box [AS [], AS [], AI 0]), (1, .row true 1 (v1004.map (eL 1 vI))), (0, .row true 3 (v50012.map eTurn))] false (con_impl_Turn_valid e1047) c25_ok (by first | rfl | simp) rfl ?_
     refine qp (AB (!v1047)) rfl ?_
     refine r_nil ?_
     refine cF hF (fun hF => ?_) fun hF => ?_
     ·
      refine ws 2562 2690 ?_
      refine qf (.sl 2562 0 0) [(2562, .row true 3 (([] : List TTurn).map eTurn)), (1858, .box [AS v1037.2.1, AI (w64 (v1045 + v1037.2.2)), AI v2]), (1858, .box [AS [], AI 0, AI 0]), (1090, .box [AS v1039.1, AI v1039.2.1, AI v1039.2.2]), (1026, .box [AS v1037.1, AS v1037.2.1, AI v1037.2.2]), (1090, .box [AS [], AI 0, AI 0]), (1026, .box [AS [], AS [], AI 0]), (1, .row true 1 (v1004.map (eL 1 vI))), (0, .row true 3 (v50012.map eTurn))] (by simp) ?_
      refine qp (AI 6) rfl ?_
      refine r_nil ?_
      refine w_ret ?_
      refine thenQ_r ?_
      refine blockQ_r ?_
      refine thenQ_r ?_
      refine thenQ_r ?_
      refine blockQ_r ?_
      refine thenQ_r ?_
      cases hF
      exact eR
     ·
      refine w_skip ?_
      refine thenQ_n ?_
      refine ws 2562 3074 ?_
      refine qp (.sl 0 0 v50012.length) rfl (qp (.agg [AS v1037.2.1, AI (w64 (v1045 + v1037.2.2)), AI v2]) rfl ?_)
      obtain ⟨v1048, e1048, hF⟩ := bind_get hF
      refine qc (.tup [AI v1048.1, AB v1048.2]) [(1858, .box [AS v1037.2.1, AI (w64 (v1045 + v1037.2.2)), AI v2]), (1858, .box [AS [], AI 0, AI 0]), (1090, .box [AS v1039.1, AI v1039.2.1, AI v1039.2.2]), (1026, .box [AS v1037.1, AS v1037.2.1, AI v1037.2.2]), (1090, .box [AS [], AI 0, AI 0]), (1026, .box [AS [], AS [], AI 0]), (1, .row true 1 (v1004.map (eL 1 vI))), (0, .row true 3 (v50012.map eTurn))] true (con_slices_BinarySearchFunc_STurn_Turn e1048) c26_ok (by simp [List.take_of_length_le]) rfl ?_
      refine qp (.tup [AI v1048.1, AB v1048.2]) rfl (qp (AI v1048.1) rfl (qp (AB v1048.2) rfl (qp (AI v1048.1) rfl (qp (AB v1048.2) rfl ?_))))
      refine r_nil ?_
      refine w_reg 3074 3458 rfl rfl ?_
      refine qp (.sl 0 0 v50012.length) rfl (qp (AI v1048.1) rfl (qp (.agg [AS v1037.2.1, AI (w64 (v1045 + v1037.2.2)), AI v2]) rfl ?_))
      refine qf (.sl 3266 0 ([(v1037.2.1, w64 (v1045 + v1037.2.2), v2)].length)) [(3266, .row true 3 ([(v1037.2.1, w64 (v1045 + v1037.2.2), v2)].map eTurn)), (1858, .box [AS v1037.2.1, AI (w64 (v1045 + v1037.2.2)), AI v2]), (1858, .box [AS [], AI 0, AI 0]), (1090, .box [AS v1039.1, AI v1039.2.1, AI v1039.2.2]), (1026, .box [AS v1037.1, AS v1037.2.1, AI v1037.2.2]), (1090, .box [AS [], AI 0, AI 0]), (1026, .box [AS [], AS [], AI 0]), (1, .row true 1 (v1004.map (eL 1 vI))), (0, .row true 3 (v50012.map eTurn))] (by simp [List.take_of_length_le]) ?_
      obtain ⟨v1049, e1049, hF⟩ := bind_get hF
      refine qX (.sl 3330 0 v1049.length) [(3330, .row true 3 (v1049.map eTurn)), (0, .dead), (3266, .row true 3 ([(v1037.2.1, w64 (v1045 + v1037.2.2), v2)].map eTurn)), (1858, .box [AS v1037.2.1, AI (w64 (v1045 + v1037.2.2)), AI v2]), (1858, .box [AS [], AI 0, AI 0]), (1090, .box [AS v1039.1, AI v1039.2.1, AI v1039.2.2]), (1026, .box [AS v1037.1, AS v1037.2.1, AI v1037.2.2]), (1090, .box [AS [], AI 0, AI 0]), (1026, .box [AS [], AS [], AI 0]), (1, .row true 1 (v1004.map (eL 1 vI))), (0, .row true 3 (v50012.map eTurn))] true rfl rfl (whole_row (by simp)) (con_ins_28 (e := eTurn) e1049) c28_ok (by simp [List.take_of_length_le]) (by simp [RV.r]) ?_
      refine qp (.sl 3330 0 v1049.length) rfl ?_
      refine r_nil ?_
      refine blockQ_n ?_
      refine thenQ_n ?_
      refine w_reg 3458 3586 rfl rfl ?_
      refine qp (AI (w64 (v50011 + 1))) rfl (qp (AI (w64 (v50011 + 1))) rfl ?_)
      refine r_nil ?_
      refine thenQ_n ?_
      refine ar (l' := [(0, AL 3 (v0.map eTurn)), (1, AL 3 (v1.map eAnswer)), (2, AI v2), (8, .sl 0 0 v1049.length), (33, .sl 1 0 v1004.length), (34, AI (v1004.length : Int)), (35, AI (w64 (v50011 + 1)))]) (L := [(1, .row true 1 (v1004.map (eL 1 vI))), (0, .row true 3 (v1049.map eTurn))]) [0, 1, 2, 8, 33, 34, 35] [(1, 1), (3330, 0)] 2 ⟨_, by rfl, hF⟩
   ·
    refine qp (AL 3 (v1.map eAnswer)) rfl (qp (.val (some 1) (.sl 1 (v1035.map vI))) rfl ?_)
    refine qp (.val (some 1) (.ptr [.int .i64 v1036])) (ev_iad_s rfl rfl rfl e1036 rfl) (qp (AI v1036) rfl ?_)
    refine qp (.val none (.ptr [.str v1037.1, .str v1037.2.1, .int .i64 v1037.2.2])) (ev_iad_n rfl rfl e1037 rfl) (qp (.val none (eAnswer v1037)) rfl (qp (.val (some 1) (.sl 1 (v1035.map vI))) rfl ?_))
    refine qp (.val (some 1) (.ptr [.int .i64 v1038])) (ev_iad_s rfl rfl rfl e1038 rfl) (qp (AI v1038) rfl ?_)
    refine qf (.ptr 1026 0 0) [(1026, .box [AS [], AS [], AI 0]), (1, .row true 1 (v1004.map (eL 1 vI))), (0, .row true 3 (v50012.map eTurn))] (by simp) ?_
    refine qf (.ptr 1090 0 0) [(1090, .box [AS [], AI 0, AI 0]), (1026, .box [AS [], AS [], AI 0]), (1, .row true 1 (v1004.map (eL 1 vI))), (0, .row true 3 (v50012.map eTurn))] (by simp) ?_
    refine qf0 (.undef) [(1026, .box [AS v1037.1, AS v1037.2.1, AI v1037.2.2]), (1090, .box [AS [], AI 0, AI 0]), (1026, .box [AS [], AS [], AI 0]), (1, .row true 1 (v1004.map (eL 1 vI))), (0, .row true 3 (v50012.map eTurn))] (by simp) ?_
    refine qp (AL 3 (v0.map eTurn)) rfl ?_
    refine qp (.val none (.ptr [.str v1039.1, .int .i64 v1039.2.1, .int .i64 v1039.2.2])) (ev_iad_n rfl rfl e1039 rfl) (qp (.val none (eTurn v1039)) rfl ?_)
    refine qf0 (.undef) [(1090, .box [AS v1039.1, AI v1039.2.1, AI v1039.2.2]), (1026, .box [AS v1037.1, AS v1037.2.1, AI v1037.2.2]), (1090, .box [AS [], AI 0, AI 0]), (1026, .box [AS [], AS [], AI 0]), (1, .row true 1 (v1004.map (eL 1 vI))), (0, .row true 3 (v50012.map eTurn))] (by simp) ?_
    refine r_nil ?_
    refine ws 1282 1986 ?_
    refine qp (.ptr 1026 0 1) rfl (qp (AS v1037.2.1) rfl (qp (.agg [AS v1039.1, AI v1039.2.1, AI v1039.2.2]) rfl ?_))
    obtain ⟨v1045, e1045, hF⟩ := bind_get hF
    refine qc (AI v1045) [(1090, .box [AS v1039.1, AI v1039.2.1, AI v1039.2.2]), (1026, .box [AS v1037.1, AS v1037.2.1, AI v1037.2.2]), (1090, .box [AS [], AI 0, AI 0]), (1026, .box [AS [], AS [], AI 0]), (1, .row true 1 (v1004.map (eL 1 vI))), (0, .row true 3 (v50012.map eTurn))] false (con_impl_Turn_end e1045) c23_ok (by first | rfl | simp) rfl ?_
    refine qp (.ptr 1026 0 2) rfl (qp (AI v1037.2.2) rfl (qp (AI (w64 (v1045 + v1037.2.2))) rfl (qp (AI v2) rfl ?_)))
    refine qf (.agg [AS v1037.2.1, AI (w64 (v1045 + v1037.2.2)), AI v2]) [(1090, .box [AS v1039.1, AI v1039.2.1, AI v1039.2.2]), (1026, .box [AS v1037.1, AS v1037.2.1, AI v1037.2.2]), (1090, .box [AS [], AI 0, AI 0]), (1026, .box [AS [], AS [], AI 0]), (1, .row true 1 (v1004.map (eL 1 vI))), (0, .row true 3 (v50012.map eTurn))] (by simp) ?_
    refine qf (.ptr 1858 0 0) [(1858, .box [AS [], AI 0, AI 0]), (1090, .box [AS v1039.1, AI v1039.2.1, AI v1039.2.2]), (1026, .box [AS v1037.1, AS v1037.2.1, AI v1037.2.2]), (1090, .box [AS [], AI 0, AI 0]), (1026, .box [AS [], AS [], AI 0]), (1, .row true 1 (v1004.map (eL 1 vI))), (0, .row true 3 (v50012.map eTurn))] (by simp) ?_
    refine qf0 (.undef) [(1858, .box [AS v1037.2.1, AI (w64 (v1045 + v1037.2.2)), AI v2]), (1858, .box [AS [], AI 0, AI 0]), (1090, .box [AS v1039.1, AI v1039.2.1, AI v1039.2.2]), (1026, .box [AS v1037.1, AS v1037.2.1, AI v1037.2.2]), (1090, .box [AS [], AI 0, AI 0]), (1026, .box [AS [], AS [], AI 0]), (1, .row true 1 (v1004.map (eL 1 vI))), (0, .row true 3 (v50012.map eTurn))] (by simp) ?_
    refine r_nil ?_
    refine w_seq ?_
    refine ws 1986 2370 ?_
    refine qp (.sl 0 0 v50012.length) rfl (qp (.ptr 1858 0 0) rfl (qp (AS v1037.2.1) rfl (qp (.ptr 1858 0 1) rfl (qp (AI (w64 (v1045 + v1037.2.2))) rfl ?_))))
    obtain ⟨v1046, e1046, hF⟩ := bind_get hF
    refine qc (AB v1046) [(1858, .box [AS v1037.2.1, AI (w64 (v1045 + v1037.2.2)), AI v2]), (1858, .box [AS [], AI 0, AI 0]), (1090, .box [AS v1039.1, AI v1039.2.1, AI v1039.2.2]), (1026, .box [AS v1037.1, AS v1037.2.1, AI v1037.2.2]), (1090, .box [AS [], AI 0, AI 0]), (1026, .box [AS [], AS [], AI 0]), (1, .row true 1 (v1004.map (eL 1 vI))), (0, .row true 3 (v50012.map eTurn))] true (con_impl_begins e1046) c24_ok (by simp [List.take_of_length_le]) rfl ?_
    refine r_nil ?_
    refine cF hF (fun hF => ?_) fun hF => ?_
    ·
     refine w_exit ?_
     refine thenQ_e ?_
     refine blockQ_e ?_
     refine thenQ_n ?_
     refine w_reg 2370 2498 rfl rfl ?_
     refine qp (AI (w64 (v50011 + 1))) rfl (qp (AI (w64 (v50011 + 1))) rfl ?_)
     refine r_nil ?_
     refine thenQ_n ?_
     refine ar (l' := [(0, AL 3 (v0.map eTurn)), (1, AL 3 (v1.map eAnswer)), (2, AI v2), (8, .sl 0 0 v50012.length), (33, .sl 1 0 v1004.length), (34, AI (v1004.length : Int)), (35, AI (w64 (v50011 + 1)))]) (L := [(1, .row true 1 (v1004.map (eL 1 vI))), (0, .row true 3 (v50012.map eTurn))]) [0, 1, 2, 8, 33, 34, 35] [(1, 1), (0, 0)] 2 ⟨_, by rfl, hF⟩
    ·
     refine w_skip ?_
     refine thenQ_n ?_
     refine w_seq ?_
     refine ws 2370 2562 ?_
     refine qp (.agg [AS v1037.2.1, AI (w64 (v1045 + v1037.2.2)), AI v2]) rfl ?_
     obtain ⟨v1047, e1047, hF⟩ := bind_get hF
     refine qc (AB v1047) [(1858, .box [AS v1037.2.1, AI (w64 (v1045 + v1037.2.2)), AI v2]), (1858, .box [AS [], AI 0, AI 0]), (1090, .box [AS v1039.1, AI v1039.2.1, AI v1039.2.2]), (1026, .box [AS v1037.1, AS v1037.2.1, AI v1037.2.2]), (1090, .box [AS [], AI 0, AI 0]), (1026, .box [AS [], AS [], AI 0]), (1, .row true 1 (v1004.map (eL 1 vI))), (0, .row true 3 (v50012.map eTurn))] false (con_impl_Turn_valid e1047) c25_ok (by first | rfl | simp) rfl ?_
     refine qp (AB (!v1047)) rfl ?_
     refine r_nil ?_
     refine cF hF (fun hF => ?_) fun hF => ?_
     ·
      refine ws 2562 2690 ?_
      refine qf (.sl 2562 0 0) [(2562, .row true 3 (([] : List TTurn).map eTurn)), (1858, .box [AS v1037.2.1, AI (w64 (v1045 + v1037.2.2)), AI v2]), (1858, .box [AS [], AI 0, AI 0]), (1090, .box [AS v1039.1, AI v1039.2.1, AI v1039.2.2]), (1026, .box [AS v1037.1, AS v1037.2.1, AI v1037.2.2]), (1090, .box [AS [], AI 0, AI 0]), (1026, .box [AS [], AS [], AI 0]), (1, .row true 1 (v1004.map (eL 1 vI))), (0, .row true 3 (v50012.map eTurn))] (by simp) ?_
      refine qp (AI 6) rfl ?_
      refine r_nil ?_
      refine w_ret ?_
      refine thenQ_r ?_
      refine blockQ_r ?_
      refine thenQ_r ?_
      refine thenQ_r ?_
      refine blockQ_r ?_
      refine thenQ_r ?_
      cases hF
      exact eR
     ·
      refine w_skip ?_
      refine thenQ_n ?_
      refine ws 2562 3074 ?_
      refine qp (.sl 0 0 v50012.length) rfl (qp (.agg [AS v1037.2.1, AI (w64 (v1045 + v1037.2.2)), AI v2]) rfl ?_)
      obtain ⟨v1048, e1048, hF⟩ := bind_get hF
      refine qc (.tup [AI v1048.1, AB v1048.2]) [(1858, .box [AS v1037.2.1, AI (w64 (v1045 + v1037.2.2)), AI v2]), (1858, .box [AS [], AI 0, AI 0]), (1090, .box [AS v1039.1, AI v1039.2.1, AI v1039.2.2]), (1026, .box [AS v1037.1, AS v1037.2.1, AI v1037.2.2]), (1090, .box [AS [], AI 0, AI 0]), (1026, .box [AS [], AS [], AI 0]), (1, .row true 1 (v1004.map (eL 1 vI))), (0, .row true 3 (v50012.map eTurn))] true (con_slices_BinarySearchFunc_STurn_Turn e1048) c26_ok (by simp [List.take_of_length_le]) rfl ?_
      refine qp (.tup [AI v1048.1, AB v1048.2]) rfl (qp (AI v1048.1) rfl (qp (AB v1048.2) rfl (qp (AI v1048.1) rfl (qp (AB v1048.2) rfl ?_))))
      refine r_nil ?_
      refine w_reg 3074 3458 rfl rfl ?_
      refine qp (.sl 0 0 v50012.length) rfl (qp (AI v1048.1) rfl (qp (.agg [AS v1037.2.1, AI (w64 (v1045 + v1037.2.2)), AI v2]) rfl ?_))
      refine qf (.sl 3266 0 ([(v1037.2.1, w64 (v1045 + v1037.2.2), v2)].length)) [(3266, .row true 3 ([(v1037.2.1, w64 (v1045 + v1037.2.2), v2)].map eTurn)), (1858, .box [AS v1037.2.1, AI (w64 (v1045 + v1037.2.2)), AI v2]), (1858, .box [AS [], AI 0, AI 0]), (1090, .box [AS v1039.1, AI v1039.2.1, AI v1039.2.2]), (1026, .box [AS v1037.1, AS v1037.2.1, AI v1037.2.2]), (1090, .box [AS [], AI 0, AI 0]), (1026, .box [AS [], AS [], AI 0]), (1, .row true 1 (v1004.map (eL 1 vI))), (0, .row true 3 (v50012.map eTurn))] (by simp [List.take_of_length_le]) ?_
      obtain ⟨v1049, e1049, hF⟩ := bind_get hF
      refine qX (.sl 3330 0 v1049.length) [(3330, .row true 3 (v1049.map eTurn)), (0, .dead), (3266, .row true 3 ([(v1037.2.1, w64 (v1045 + v1037.2.2), v2)].map eTurn)), (1858, .box [AS v1037.2.1, AI (w64 (v1045 + v1037.2.2)), AI v2]), (1858, .box [AS [], AI 0, AI 0]), (1090, .box [AS v1039.1, AI v1039.2.1, AI v1039.2.2]), (1026, .box [AS v1037.1, AS v1037.2.1, AI v1037.2.2]), (1090, .box [AS [], AI 0, AI 0]), (1026, .box [AS [], AS [], AI 0]), (1, .row true 1 (v1004.map (eL 1 vI))), (0, .row true 3 (v50012.map eTurn))] true rfl rfl (whole_row (by simp)) (con_ins_28 (e := eTurn) e1049) c28_ok (by simp [List.take_of_length_le]) (by simp [RV.r]) ?_
      refine qp (.sl 3330 0 v1049.length) rfl ?_
      refine r_nil ?_
      refine blockQ_n ?_
      refine thenQ_n ?_
      refine w_reg 3458 3586 rfl rfl ?_
      refine qp (AI (w64 (v50011 + 1))) rfl (qp (AI (w64 (v50011 + 1))) rfl ?_)
      refine r_nil ?_
      refine thenQ_n ?_
      refine ar (l' := [(0, AL 3 (v0.map eTurn)), (1, AL 3 (v1.map eAnswer)), (2, AI v2), (8, .sl 0 0 v1049.length), (33, .sl 1 0 v1004.length), (34, AI (v1004.length : Int)), (35, AI (w64 (v50011 + 1)))]) (L := [(1, .row true 1 (v1004.map (eL 1 vI))), (0, .row true 3 (v1049.map eTurn))]) [0, 1, 2, 8, 33, 34, 35] [(1, 1), (3330, 0)] 2 ⟨_, by rfl, hF⟩
   ·
    refine qp (AL 3 (v1.map eAnswer)) rfl (qp (.val (some 1) (.sl 1 (v1035.map vI))) rfl ?_)
    refine qp (.val (some 1) (.ptr [.int .i64 v1036])) (ev_iad_s rfl rfl rfl e1036 rfl) (qp (AI v1036) rfl ?_)
    refine qp (.val none (.ptr [.str v1037.1, .str v1037.2.1, .int .i64 v1037.2.2])) (ev_iad_n rfl rfl e1037 rfl) (qp (.val none (eAnswer v1037)) rfl (qp (.val (some 1) (.sl 1 (v1035.map vI))) rfl ?_))
    refine qp (.val (some 1) (.ptr [.int .i64 v1038])) (ev_iad_s rfl rfl rfl e1038 rfl) ?_
    refine qf (.ptr 1026 0 0) [(1026, .box [AS [], AS [], AI 0]), (1, .row true 1 (v1004.map (eL 1 vI))), (0, .row true 3 (v50012.map eTurn))] (by simp) ?_
    refine qf (.ptr 1090 0 0) [(1090, .box [AS [], AI 0, AI 0]), (1026, .box [AS [], AS [], AI 0]), (1, .row true 1 (v1004.map (eL 1 vI))), (0, .row true 3 (v50012.map eTurn))] (by simp) ?_
    refine qf0 (.undef) [(1026, .box [AS v1037.1, AS v1037.2.1, AI v1037.2.2]), (1090, .box [AS [], AI 0, AI 0]), (1026, .box [AS [], AS [], AI 0]), (1, .row true 1 (v1004.map (eL 1 vI))), (0, .row true 3 (v50012.map eTurn))] (by simp) ?_
    refine qp (AL 3 (v0.map eTurn)) rfl (qp (AI v1038) rfl ?_)
    refine qp (.val none (.ptr [.str v1039.1, .int .i64 v1039.2.1, .int .i64 v1039.2.2])) (ev_iad_n rfl rfl e1039 rfl) (qp (.val none (eTurn v1039)) rfl ?_)
    refine qf0 (.undef) [(1090, .box [AS v1039.1, AI v1039.2.1, AI v1039.2.2]), (1026, .box [AS v1037.1, AS v1037.2.1, AI v1037.2.2]), (1090, .box [AS [], AI 0, AI 0]), (1026, .box [AS [], AS [], AI 0]), (1, .row true 1 (v1004.map (eL 1 vI))), (0, .row true 3 (v50012.map eTurn))] (by simp) ?_
    refine r_nil ?_
    refine ws 1282 1986 ?_
    refine qp (.ptr 1026 0 1) rfl (qp (AS v1037.2.1) rfl (qp (.agg [AS v1039.1, AI v1039.2.1, AI v1039.2.2]) rfl ?_))
    obtain ⟨v1045, e1045, hF⟩ := bind_get hF
    refine qc (AI v1045) [(1090, .box [AS v1039.1, AI v1039.2.1, AI v1039.2.2]), (1026, .box [AS v1037.1, AS v1037.2.1, AI v1037.2.2]), (1090, .box [AS [], AI 0, AI 0]), (1026, .box [AS [], AS [], AI 0]), (1, .row true 1 (v1004.map (eL 1 vI))), (0, .row true 3 (v50012.map eTurn))] false (con_impl_Turn_end e1045) c23_ok (by first | rfl | simp) rfl ?_
    refine qp (.ptr 1026 0 2) rfl (qp (AI v1037.2.2) rfl (qp (AI (w64 (v1045 + v1037.2.2))) rfl (qp (AI v2) rfl ?_)))
    refine qf (.agg [AS v1037.2.1, AI (w64 (v1045 + v1037.2.2)), AI v2]) [(1090, .box [AS v1039.1, AI v1039.2.1, AI v1039.2.2]), (1026, .box [AS v1037.1, AS v1037.2.1, AI v1037.2.2]), (1090, .box [AS [], AI 0, AI 0]), (1026, .box [AS [], AS [], AI 0]), (1, .row true 1 (v1004.map (eL 1 vI))), (0, .row true 3 (v50012.map eTurn))] (by simp) ?_
    refine qf (.ptr 1858 0 0) [(1858, .box [AS [], AI 0, AI 0]), (1090, .box [AS v1039.1, AI v1039.2.1, AI v1039.2.2]), (1026, .box [AS v1037.1, AS v1037.2.1, AI v1037.2.2]), (1090, .box [AS [], AI 0, AI 0]), (1026, .box [AS [], AS [], AI 0]), (1, .row true 1 (v1004.map (eL 1 vI))), (0, .row true 3 (v50012.map eTurn))] (by simp) ?_
    refine qf0 (.undef) [(1858, .box [AS v1037.2.1, AI (w64 (v1045 + v1037.2.2)), AI v2]), (1858, .box [AS [], AI 0, AI 0]), (1090, .box [AS v1039.1, AI v1039.2.1, AI v1039.2.2]), (1026, .box [AS v1037.1, AS v1037.2.1, AI v1037.2.2]), (1090, .box [AS [], AI 0, AI 0]), (1026, .box [AS [], AS [], AI 0]), (1, .row true 1 (v1004.map (eL 1 vI))), (0, .row true 3 (v50012.map eTurn))] (by simp) ?_
    refine r_nil ?_
    refine w_seq ?_
    refine ws 1986 2370 ?_
    refine qp (.sl 0 0 v50012.length) rfl (qp (.ptr 1858 0 0) rfl (qp (AS v1037.2.1) rfl (qp (.ptr 1858 0 1) rfl (qp (AI (w64 (v1045 + v1037.2.2))) rfl ?_))))
    obtain ⟨v1046, e1046, hF⟩ := bind_get hF
    refine qc (AB v1046) [(1858, .box [AS v1037.2.1, AI (w64 (v1045 + v1037.2.2)), AI v2]), (1858, .box [AS [], AI 0, AI 0]), (1090, .box [AS v1039.1, AI v1039.2.1, AI v1039.2.2]), (1026, .box [AS v1037.1, AS v1037.2.1, AI v1037.2.2]), (1090, .box [AS [], AI 0, AI 0]), (1026, .box [AS [], AS [], AI 0]), (1, .row true 1 (v1004.map (eL 1 vI))), (0, .row true 3 (v50012.map eTurn))] true (con_impl_begins e1046) c24_ok (by simp [List.take_of_length_le]) rfl ?_
    refine r_nil ?_
    refine cF hF (fun hF => ?_) fun hF => ?_
    ·
     refine w_exit ?_
     refine thenQ_e ?_
     refine blockQ_e ?_
     refine thenQ_n ?_
     refine w_reg 2370 2498 rfl rfl ?_
     refine qp (AI (w64 (v50011 + 1))) rfl (qp (AI (w64 (v50011 + 1))) rfl ?_)
     refine r_nil ?_
     refine thenQ_n ?_
     refine ar (l' := [(0, AL 3 (v0.map eTurn)), (1, AL 3 (v1.map eAnswer)), (2, AI v2), (8, .sl 0 0 v50012.length), (33, .sl 1 0 v1004.length), (34, AI (v1004.length : Int)), (35, AI (w64 (v50011 + 1)))]) (L := [(1, .row true 1 (v1004.map (eL 1 vI))), (0, .row true 3 (v50012.map eTurn))]) [0, 1, 2, 8, 33, 34, 35] [(1, 1), (0, 0)] 2 ⟨_, by rfl, hF⟩
    ·
     refine w_skip ?_
     refine thenQ_n ?_
     refine w_seq ?_
     refine ws 2370 2562 ?_
     refine qp (.agg [AS v1037.2.1, AI (w64 (v1045 + v1037.2.2)), AI v2]) rfl ?_
     obtain ⟨v1047, e1047, hF⟩ := bind_get hF
     refine qc (AB v1047) [(1858, .box [AS v1037.2.1, AI (w64 (v1045 + v1037.2.2)), AI v2]), (1858, .box [AS [], AI 0, AI 0]), (1090, .box [AS v1039.1, AI v1039.2.1, AI v1039.2.2]), (1026, .box [AS v1037.1, AS v1037.2.1, AI v1037.2.2]), (1090, .box [AS [], AI 0, AI 0]), (1026, .box [AS [], AS [], AI 0]), (1, .row true 1 (v1004.map (eL 1 vI))), (0, .row true 3 (v50012.map eTurn))] false (con_impl_Turn_valid e1047) c25_ok (by first | rfl | simp) rfl ?_
     refine qp (AB (!v1047)) rfl ?_
     refine r_nil ?_
     refine cF hF (fun hF => ?_) fun hF => ?_
     ·
      refine ws 2562 2690 ?_
      refine qf (.sl 2562 0 0) [(2562, .row true 3 (([] : List TTurn).map eTurn)), (1858, .box [AS v1037.2.1, AI (w64 (v1045 + v1037.2.2)), AI v2]), (1858, .box [AS [], AI 0, AI 0]), (1090, .box [AS v1039.1, AI v1039.2.1, AI v1039.2.2]), (1026, .box [AS v1037.1, AS v1037.2.1, AI v1037.2.2]), (1090, .box [AS [], AI 0, AI 0]), (1026, .box [AS [], AS [], AI 0]), (1, .row true 1 (v1004.map (eL 1 vI))), (0, .row true 3 (v50012.map eTurn))] (by simp) ?_
      refine qp (AI 6) rfl ?_
      refine r_nil ?_
      refine w_ret ?_
      refine thenQ_r ?_
      refine blockQ_r ?_
      refine thenQ_r ?_
      refine thenQ_r ?_
      refine blockQ_r ?_
      refine thenQ_r ?_
      cases hF
      exact eR
     ·
      refine w_skip ?_
      refine thenQ_n ?_
      refine ws 2562 3074 ?_
      refine qp (.sl 0 0 v50012.length) rfl (qp (.agg [AS v1037.2.1, AI (w64 (v1045 + v1037.2.2)), AI v2]) rfl ?_)
      obtain ⟨v1048, e1048, hF⟩ := bind_get hF
      refine qc (.tup [AI v1048.1, AB v1048.2]) [(1858, .box [AS v1037.2.1, AI (w64 (v1045 + v1037.2.2)), AI v2]), (1858, .box [AS [], AI 0, AI 0]), (1090, .box [AS v1039.1, AI v1039.2.1, AI v1039.2.2]), (1026, .box [AS v1037.1, AS v1037.2.1, AI v1037.2.2]), (1090, .box [AS [], AI 0, AI 0]), (1026, .box [AS [], AS [], AI 0]), (1, .row true 1 (v1004.map (eL 1 vI))), (0, .row true 3 (v50012.map eTurn))] true (con_slices_BinarySearchFunc_STurn_Turn e1048) c26_ok (by simp [List.take_of_length_le]) rfl ?_
      refine qp (.tup [AI v1048.1, AB v1048.2]) rfl (qp (AI v1048.1) rfl (qp (AB v1048.2) rfl (qp (AI v1048.1) rfl (qp (AB v1048.2) rfl ?_))))
      refine r_nil ?_
      refine w_reg 3074 3458 rfl rfl ?_
      refine qp (.sl 0 0 v50012.length) rfl (qp (AI v1048.1) rfl (qp (.agg [AS v1037.2.1, AI (w64 (v1045 + v1037.2.2)), AI v2]) rfl ?_))
      refine qf (.sl 3266 0 ([(v1037.2.1, w64 (v1045 + v1037.2.2), v2)].length)) [(3266, .row true 3 ([(v1037.2.1, w64 (v1045 + v1037.2.2), v2)].map eTurn)), (1858, .box [AS v1037.2.1, AI (w64 (v1045 + v1037.2.2)), AI v2]), (1858, .box [AS [], AI 0, AI 0]), (1090, .box [AS v1039.1, AI v1039.2.1, AI v1039.2.2]), (1026, .box [AS v1037.1, AS v1037.2.1, AI v1037.2.2]), (1090, .box [AS [], AI 0, AI 0]), (1026, .box [AS [], AS [], AI 0]), (1, .row true 1 (v1004.map (eL 1 vI))), (0, .row true 3 (v50012.map eTurn))] (by simp [List.take_of_length_le]) ?_
      obtain ⟨v1049, e1049, hF⟩ := bind_get hF
      refine qX (.sl 3330 0 v1049.length) [(3330, .row true 3 (v1049.map eTurn)), (0, .dead), (3266, .row true 3 ([(v1037.2.1, w64 (v1045 + v1037.2.2), v2)].map eTurn)), (1858, .box [AS v1037.2.1, AI (w64 (v1045 + v1037.2.2)), AI v2]), (1858, .box [AS [], AI 0, AI 0]), (1090, .box [AS v1039.1, AI v1039.2.1, AI v1039.2.2]), (1026, .box [AS v1037.1, AS v1037.2.1, AI v1037.2.2]), (1090, .box [AS [], AI 0, AI 0]), (1026, .box [AS [], AS [], AI 0]), (1, .row true 1 (v1004.map (eL 1 vI))), (0, .row true 3 (v50012.map eTurn))] true rfl rfl (whole_row (by simp)) (con_ins_28 (e := eTurn) e1049) c28_ok (by simp [List.take_of_length_le]) (by simp [RV.r]) ?_
      refine qp (.sl 3330 0 v1049.length) rfl ?_
      refine r_nil ?_
      refine blockQ_n ?_
      refine thenQ_n ?_
      refine w_reg 3458 3586 rfl rfl ?_
      refine qp (AI (w64 (v50011 + 1))) rfl (qp (AI (w64 (v50011 + 1))) rfl ?_)
      refine r_nil ?_
      refine thenQ_n ?_
      refine ar (l' := [(0, AL 3 (v0.map eTurn)), (1, AL 3 (v1.map eAnswer)), (2, AI v2), (8, .sl 0 0 v1049.length), (33, .sl 1 0 v1004.length), (34, AI (v1004.length : Int)), (35, AI (w64 (v50011 + 1)))]) (L := [(1, .row true 1 (v1004.map (eL 1 vI))), (0, .row true 3 (v1049.map eTurn))]) [0, 1, 2, 8, 33, 34, 35] [(1, 1), (3330, 0)] 2 ⟨_, by rfl, hF⟩
   ·
    refine qp (AL 3 (v1.map eAnswer)) rfl (qp (.val (some 1) (.sl 1 (v1035.map vI))) rfl ?_)
    refine qp (.val (some 1) (.ptr [.int .i64 v1036])) (ev_iad_s rfl rfl rfl e1036 rfl) (qp (AI v1036) rfl ?_)
    refine qp (.val none (.ptr [.str v1037.1, .str v1037.2.1, .int .i64 v1037.2.2])) (ev_iad_n rfl rfl e1037 rfl) (qp (.val none (eAnswer v1037)) rfl (qp (.val (some 1) (.sl 1 (v1035.map vI))) rfl ?_))
    refine qf (.ptr 1026 0 0) [(1026, .box [AS [], AS [], AI 0]), (1, .row true 1 (v1004.map (eL 1 vI))), (0, .row true 3 (v50012.map eTurn))] (by simp) ?_
    refine qf (.ptr 1090 0 0) [(1090, .box [AS [], AI 0, AI 0]), (1026, .box [AS [], AS [], AI 0]), (1, .row true 1 (v1004.map (eL 1 vI))), (0, .row true 3 (v50012.map eTurn))] (by simp) ?_
    refine qf0 (.undef) [(1026, .box [AS v1037.1, AS v1037.2.1, AI v1037.2.2]), (1090, .box [AS [], AI 0, AI 0]), (1026, .box [AS [], AS [], AI 0]), (1, .row true 1 (v1004.map (eL 1 vI))), (0, .row true 3 (v50012.map eTurn))] (by simp) ?_
    refine qp (AL 3 (v0.map eTurn)) rfl ?_
    refine qp (.val (some 1) (.ptr [.int .i64 v1038])) (ev_iad_s rfl rfl rfl e1038 rfl) (qp (AI v1038) rfl ?_)
    refine qp (.val none (.ptr [.str v1039.1, .int .i64 v1039.2.1, .int .i64 v1039.2.2])) (ev_iad_n rfl rfl e1039 rfl) (qp (.val none (eTurn v1039)) rfl ?_)
    refine qf0 (.undef) [(1090, .box [AS v1039.1, AI v1039.2.1, AI v1039.2.2]), (1026, .box [AS v1037.1, AS v1037.2.1, AI v1037.2.2]), (1090, .box [AS [], AI 0, AI 0]), (1026, .box [AS [], AS [], AI 0]), (1, .row true 1 (v1004.map (eL 1 vI))), (0, .row true 3 (v50012.map eTurn))] (by simp) ?_
    refine r_nil ?_
    refine ws 1282 1986 ?_
    refine qp (.ptr 1026 0 1) rfl (qp (AS v1037.2.1) rfl (qp (.agg [AS v1039.1, AI v1039.2.1, AI v1039.2.2]) rfl ?_))
    obtain ⟨v1045, e1045, hF⟩ := bind_get hF
    refine qc (AI v1045) [(1090, .box [AS v1039.1, AI v1039.2.1, AI v1039.2.2]), (1026, .box [AS v1037.1, AS v1037.2.1, AI v1037.2.2]), (1090, .box [AS [], AI 0, AI 0]), (1026, .box [AS [], AS [], AI 0]), (1, .row true 1 (v1004.map (eL 1 vI))), (0, .row true 3 (v50012.map eTurn))] false (con_impl_Turn_end e1045) c23_ok (by first | rfl | simp) rfl ?_
    refine qp (.ptr 1026 0 2) rfl (qp (AI v1037.2.2) rfl (qp (AI (w64 (v1045 + v1037.2.2))) rfl (qp (AI v2) rfl ?_)))
    refine qf (.agg [AS v1037.2.1, AI (w64 (v1045 + v1037.2.2)), AI v2]) [(1090, .box [AS v1039.1, AI v1039.2.1, AI v1039.2.2]), (1026, .box [AS v1037.1, AS v1037.2.1, AI v1037.2.2]), (1090, .box [AS [], AI 0, AI 0]), (1026, .box [AS [], AS [], AI 0]), (1, .row true 1 (v1004.map (eL 1 vI))), (0, .row true 3 (v50012.map eTurn))] (by simp) ?_
    refine qf (.ptr 1858 0 0) [(1858, .box [AS [], AI 0, AI 0]), (1090, .box [AS v1039.1, AI v1039.2.1, AI v1039.2.2]), (1026, .box [AS v1037.1, AS v1037.2.1, AI v1037.2.2]), (1090, .box [AS [], AI 0, AI 0]), (1026, .box [AS [], AS [], AI 0]), (1, .row true 1 (v1004.map (eL 1 vI))), (0, .row true 3 (v50012.map eTurn))] (by simp) ?_
    refine qf0 (.undef) [(1858, .box [AS v1037.2.1, AI (w64 (v1045 + v1037.2.2)), AI v2]), (1858, .box [AS [], AI 0, AI 0]), (1090, .box [AS v1039.1, AI v1039.2.1, AI v1039.2.2]), (1026, .box [AS v1037.1, AS v1037.2.1, AI v1037.2.2]), (1090, .box [AS [], AI 0, AI 0]), (1026, .box [AS [], AS [], AI 0]), (1, .row true 1 (v1004.map (eL 1 vI))), (0, .row true 3 (v50012.map eTurn))] (by simp) ?_
    refine r_nil ?_
    refine w_seq ?_
    refine ws 1986 2370 ?_
    refine qp (.sl 0 0 v50012.length) rfl (qp (.ptr 1858 0 0) rfl (qp (AS v1037.2.1) rfl (qp (.ptr 1858 0 1) rfl (qp (AI (w64 (v1045 + v1037.2.2))) rfl ?_))))
    obtain ⟨v1046, e1046, hF⟩ := bind_get hF
    refine qc (AB v1046) [(1858, .box [AS v1037.2.1, AI (w64 (v1045 + v1037.2.2)), AI v2]), (1858, .box [AS [], AI 0, AI 0]), (1090, .box [AS v1039.1, AI v1039.2.1, AI v1039.2.2]), (1026, .box [AS v1037.1, AS v1037.2.1, AI v1037.2.2]), (1090, .box [AS [], AI 0, AI 0]), (1026, .box [AS [], AS [], AI 0]), (1, .row true 1 (v1004.map (eL 1 vI))), (0, .row true 3 (v50012.map eTurn))] true (con_impl_begins e1046) c24_ok (by simp [List.take_of_length_le]) rfl ?_
    refine r_nil ?_
    refine cF hF (fun hF => ?_) fun hF => ?_
    ·
     refine w_exit ?_
     refine thenQ_e ?_
     refine blockQ_e ?_
     refine thenQ_n ?_
     refine w_reg 2370 2498 rfl rfl ?_
     refine qp (AI (w64 (v50011 + 1))) rfl (qp (AI (w64 (v50011 + 1))) rfl ?_)
     refine r_nil ?_
     refine thenQ_n ?_
     refine ar (l' := [(0, AL 3 (v0.map eTurn)), (1, AL 3 (v1.map eAnswer)), (2, AI v2), (8, .sl 0 0 v50012.length), (33, .sl 1 0 v1004.length), (34, AI (v1004.length : Int)), (35, AI (w64 (v50011 + 1)))]) (L := [(1, .row true 1 (v1004.map (eL 1 vI))), (0, .row true 3 (v50012.map eTurn))]) [0, 1, 2, 8, 33, 34, 35] [(1, 1), (0, 0)] 2 ⟨_, by rfl, hF⟩
    ·
     refine w_skip ?_
     refine thenQ_n ?_
     refine w_seq ?_
     refine ws 2370 2562 ?_
     refine qp (.agg [AS v1037.2.1, AI (w64 (v1045 + v1037.2.2)), AI v2]) rfl ?_
     obtain ⟨v1047, e1047, hF⟩ := bind_get hF
     refine qc (AB v1047) [(1858, .box [AS v1037.2.1, AI (w64 (v1045 + v1037.2.2)), AI v2]), (1858, .box [AS [], AI 0, AI 0]), (1090, .box [AS v1039.1, AI v1039.2.1, AI v1039.2.2]), (1026, .box [AS v1037.1, AS v1037.2.1, AI v1037.2.2]), (1090, .box [AS [], AI 0, AI 0]), (1026, .box [AS [], AS [], AI 0]), (1, .row true 1 (v1004.map (eL 1 vI))), (0, .row true 3 (v50012.map eTurn))] false (con_impl_Turn_valid e1047) c25_ok (by first | rfl | simp) rfl ?_
     refine qp (AB (!v1047)) rfl ?_
     refine r_nil ?_
     refine cF hF (fun hF => ?_) fun hF => ?_
     ·
      refine ws 2562 2690 ?_
      refine qf (.sl 2562 0 0) [(2562, .row true 3 (([] : List TTurn).map eTurn)), (1858, .box [AS v1037.2.1, AI (w64 (v1045 + v1037.2.2)), AI v2]), (1858, .box [AS [], AI 0, AI 0]), (1090, .box [AS v1039.1, AI v1039.2.1, AI v1039.2.2]), (1026, .box [AS v1037.1, AS v1037.2.1, AI v1037.2.2]), (1090, .box [AS [], AI 0, AI 0]), (1026, .box [AS [], AS [], AI 0]), (1, .row true 1 (v1004.map (eL 1 vI))), (0, .row true 3 (v50012.map eTurn))] (by simp) ?_
      refine qp (AI 6) rfl ?_
      refine r_nil ?_
      refine w_ret ?_
      refine thenQ_r ?_
      refine blockQ_r ?_
      refine thenQ_r ?_
      refine thenQ_r ?_
      refine blockQ_r ?_
      refine thenQ_r ?_
      cases hF
      exact eR
     ·
      refine w_skip ?_
      refine thenQ_n ?_
      refine ws 2562 3074 ?_
      refine qp (.sl 0 0 v50012.length) rfl (qp (.agg [AS v1037.2.1, AI (w64 (v1045 + v1037.2.2)), AI v2]) rfl ?_)
      obtain ⟨v1048, e1048, hF⟩ := bind_get hF
      refine qc (.tup [AI v1048.1, AB v1048.2]) [(1858, .box [AS v1037.2.1, AI (w64 (v1045 + v1037.2.2)), AI v2]), (1858, .box [AS [], AI 0, AI 0]), (1090, .box [AS v1039.1, AI v1039.2.1, AI v1039.2.2]), (1026, .box [AS v1037.1, AS v1037.2.1, AI v1037.2.2]), (1090, .box [AS [], AI 0, AI 0]), (1026, .box [AS [], AS [], AI 0]), (1, .row true 1 (v1004.map (eL 1 vI))), (0, .row true 3 (v50012.map eTurn))] true (con_slices_BinarySearchFunc_STurn_Turn e1048) c26_ok (by simp [List.take_of_length_le]) rfl ?_
      refine qp (.tup [AI v1048.1, AB v1048.2]) rfl (qp (AI v1048.1) rfl (qp (AB v1048.2) rfl (qp (AI v1048.1) rfl (qp (AB v1048.2) rfl ?_))))
      refine r_nil ?_
      refine w_reg 3074 3458 rfl rfl ?_
      refine qp (.sl 0 0 v50012.length) rfl (qp (AI v1048.1) rfl (qp (.agg [AS v1037.2.1, AI (w64 (v1045 + v1037.2.2)), AI v2]) rfl ?_))
      refine qf (.sl 3266 0 ([(v1037.2.1, w64 (v1045 + v1037.2.2), v2)].length)) [(3266, .row true 3 ([(v1037.2.1, w64 (v1045 + v1037.2.2), v2)].map eTurn)), (1858, .box [AS v1037.2.1, AI (w64 (v1045 + v1037.2.2)), AI v2]), (1858, .box [AS [], AI 0, AI 0]), (1090, .box [AS v1039.1, AI v1039.2.1, AI v1039.2.2]), (1026, .box [AS v1037.1, AS v1037.2.1, AI v1037.2.2]), (1090, .box [AS [], AI 0, AI 0]), (1026, .box [AS [], AS [], AI 0]), (1, .row true 1 (v1004.map (eL 1 vI))), (0, .row true 3 (v50012.map eTurn))] (by simp [List.take_of_length_le]) ?_
      obtain ⟨v1049, e1049, hF⟩ := bind_get hF
      refine qX (.sl 3330 0 v1049.length) [(3330, .row true 3 (v1049.map eTurn)), (0, .dead), (3266, .row true 3 ([(v1037.2.1, w64 (v1045 + v1037.2.2), v2)].map eTurn)), (1858, .box [AS v1037.2.1, AI (w64 (v1045 + v1037.2.2)), AI v2]), (1858, .box [AS [], AI 0, AI 0]), (1090, .box [AS v1039.1, AI v1039.2.1, AI v1039.2.2]), (1026, .box [AS v1037.1, AS v1037.2.1, AI v1037.2.2]), (1090, .box [AS [], AI 0, AI 0]), (1026, .box [AS [], AS [], AI 0]), (1, .row true 1 (v1004.map (eL 1 vI))), (0, .row true 3 (v50012.map eTurn))] true rfl rfl (whole_row (by simp)) (con_ins_28 (e := eTurn) e1049) c28_ok (by simp [List.take_of_length_le]) (by simp [RV.r]) ?_
      refine qp (.sl 3330 0 v1049.length) rfl ?_
      refine r_nil ?_
      refine blockQ_n ?_
      refine thenQ_n ?_
      refine w_reg 3458 3586 rfl rfl ?_
      refine qp (AI (w64 (v50011 + 1))) rfl (qp (AI (w64 (v50011 + 1))) rfl ?_)
      refine r_nil ?_
      refine thenQ_n ?_
      refine ar (l' := [(0, AL 3 (v0.map eTurn)), (1, AL 3 (v1.map eAnswer)), (2, AI v2), (8, .sl 0 0 v1049.length), (33, .sl 1 0 v1004.length), (34, AI (v1004.length : Int)), (35, AI (w64 (v50011 + 1)))]) (L := [(1, .row true 1 (v1004.map (eL 1 vI))), (0, .row true 3 (v1049.map eTurn))]) [0, 1, 2, 8, 33, 34, 35] [(1, 1), (3330, 0)] 2 ⟨_, by rfl, hF⟩
   ·
    refine qp (AL 3 (v1.map eAnswer)) rfl (qp (.val (some 1) (.sl 1 (v1035.map vI))) rfl ?_)
    refine qp (.val (some 1) (.ptr [.int .i64 v1036])) (ev_iad_s rfl rfl rfl e1036 rfl) (qp (AI v1036) rfl ?_)
    refine qp (.val none (.ptr [.str v1037.1, .str v1037.2.1, .int .i64 v1037.2.2])) (ev_iad_n rfl rfl e1037 rfl) (qp (.val none (eAnswer v1037)) rfl ?_)
    refine qf (.ptr 1026 0 0) [(1026, .box [AS [], AS [], AI 0]), (1, .row true 1 (v1004.map (eL 1 vI))), (0, .row true 3 (v50012.map eTurn))] (by simp) ?_
    refine qf (.ptr 1090 0 0) [(1090, .box [AS [], AI 0, AI 0]), (1026, .box [AS [], AS [], AI 0]), (1, .row true 1 (v1004.map (eL 1 vI))), (0, .row true 3 (v50012.map eTurn))] (by simp) ?_
    refine qf0 (.undef) [(1026, .box [AS v1037.1, AS v1037.2.1, AI v1037.2.2]), (1090, .box [AS [], AI 0, AI 0]), (1026, .box [AS [], AS [], AI 0]), (1, .row true 1 (v1004.map (eL 1 vI))), (0, .row true 3 (v50012.map eTurn))] (by simp) ?_
    refine qp (AL 3 (v0.map eTurn)) rfl (qp (.val (some 1) (.sl 1 (v1035.map vI))) rfl ?_)
    refine qp (.val (some 1) (.ptr [.int .i64 v1038])) (ev_iad_s rfl rfl rfl e1038 rfl) (qp (AI v1038) rfl ?_)
    refine qp (.val none (.ptr [.str v1039.1, .int .i64 v1039.2.1, .int .i64 v1039.2.2])) (ev_iad_n rfl rfl e1039 rfl) (qp (.val none (eTurn v1039)) rfl ?_)
    refine qf0 (.undef) [(1090, .box [AS v1039.1, AI v1039.2.1, AI v1039.2.2]), (1026, .box [AS v1037.1, AS v1037.2.1, AI v1037.2.2]), (1090, .box [AS [], AI 0, AI 0]), (1026, .box [AS [], AS [], AI 0]), (1, .row true 1 (v1004.map (eL 1 vI))), (0, .row true 3 (v50012.map eTurn))] (by simp) ?_
    refine r_nil ?_
    refine ws 1282 1986 ?_
    refine qp (.ptr 1026 0 1) rfl (qp (AS v1037.2.1) rfl (qp (.agg [AS v1039.1, AI v1039.2.1, AI v1039.2.2]) rfl ?_))
    obtain ⟨v1045, e1045, hF⟩ := bind_get hF
    refine qc (AI v1045) [(1090, .box [AS v1039.1, AI v1039.2.1, AI v1039.2.2]), (1026, .box [AS v1037.1, AS v1037.2.1, AI v1037.2.2]), (1090, .box [AS [], AI 0, AI 0]), (1026, .box [AS [], AS [], AI 0]), (1, .row true 1 (v1004.map (eL 1 vI))), (0, .row true 3 (v50012.map eTurn))] false (con_impl_Turn_end e1045) c23_ok (by first | rfl | simp) rfl ?_
    refine qp (.ptr 1026 0 2) rfl (qp (AI v1037.2.2) rfl (qp (AI (w64 (v1045 + v1037.2.2))) rfl (qp (AI v2) rfl ?_)))
    refine qf (.agg [AS v1037.2.1, AI (w64 (v1045 + v1037.2.2)), AI v2]) [(1090, .box [AS v1039.1, AI v1039.2.1, AI v1039.2.2]), (1026, .box [AS v1037.1, AS v1037.2.1, AI v1037.2.2]), (1090, .box [AS [], AI 0, AI 0]), (1026, .box [AS [], AS [], AI 0]), (1, .row true 1 (v1004.map (eL 1 vI))), (0, .row true 3 (v50012.map eTurn))] (by simp) ?_
    refine qf (.ptr 1858 0 0) [(1858, .box [AS [], AI 0, AI 0]), (1090, .box [AS v1039.1, AI v1039.2.1, AI v1039.2.2]), (1026, .box [AS v1037.1, AS v1037.2.1, AI v1037.2.2]), (1090, .box [AS [], AI 0, AI 0]), (1026, .box [AS [], AS [], AI 0]), (1, .row true 1 (v1004.map (eL 1 vI))), (0, .row true 3 (v50012.map eTurn))] (by simp) ?_
    refine qf0 (.undef) [(1858, .box [AS v1037.2.1, AI (w64 (v1045 + v1037.2.2)), AI v2]), (1858, .box [AS [], AI 0, AI 0]), (1090, .box [AS v1039.1, AI v1039.2.1, AI v1039.2.2]), (1026, .box [AS v1037.1, AS v1037.2.1, AI v1037.2.2]), (1090, .box [AS [], AI 0, AI 0]), (1026, .box [AS [], AS [], AI 0]), (1, .row true 1 (v1004.map (eL 1 vI))), (0, .row true 3 (v50012.map eTurn))] (by simp) ?_
    refine r_nil ?_
    refine w_seq ?_
    refine ws 1986 2370 ?_
    refine qp (.sl 0 0 v50012.length) rfl (qp (.ptr 1858 0 0) rfl (qp (AS v1037.2.1) rfl (qp (.ptr 1858 0 1) rfl (qp (AI (w64 (v1045 + v1037.2.2))) rfl ?_))))
    obtain ⟨v1046, e1046, hF⟩ := bind_get hF
    refine qc (AB v1046) [(1858, .box [AS v1037.2.1, AI (w64 (v1045 + v1037.2.2)), AI v2]), (1858, .box [AS [], AI 0, AI 0]), (1090, .box [AS v1039.1, AI v1039.2.1, AI v1039.2.2]), (1026, .box [AS v1037.1, AS v1037.2.1, AI v1037.2.2]), (1090, .box [AS [], AI 0, AI 0]), (1026, .box [AS [], AS [], AI 0]), (1, .row true 1 (v1004.map (eL 1 vI))), (0, .row true 3 (v50012.map eTurn))] true (con_impl_begins e1046) c24_ok (by simp [List.take_of_length_le]) rfl ?_
    refine r_nil ?_
    refine cF hF (fun hF => ?_) fun hF => ?_
    ·
     refine w_exit ?_
     refine thenQ_e ?_
     refine blockQ_e ?_
     refine thenQ_n ?_
     refine w_reg 2370 2498 rfl rfl ?_
     refine qp (AI (w64 (v50011 + 1))) rfl (qp (AI (w64 (v50011 + 1))) rfl ?_)
     refine r_nil ?_
     refine thenQ_n ?_
     refine ar (l' := [(0, AL 3 (v0.map eTurn)), (1, AL 3 (v1.map eAnswer)), (2, AI v2), (8, .sl 0 0 v50012.length), (33, .sl 1 0 v1004.length), (34, AI (v1004.length : Int)), (35, AI (w64 (v50011 + 1)))]) (L := [(1, .row true 1 (v1004.map (eL 1 vI))), (0, .row true 3 (v50012.map eTurn))]) [0, 1, 2, 8, 33, 34, 35] [(1, 1), (0, 0)] 2 ⟨_, by rfl, hF⟩
    ·
     refine w_skip ?_
     refine thenQ_n ?_
     refine w_seq ?_
     refine ws 2370 2562 ?_
     refine qp (.agg [AS v1037.2.1, AI (w64 (v1045 + v1037.2.2)), AI v2]) rfl ?_
     obtain ⟨v1047, e1047, hF⟩ := bind_get hF
     refine qc (AB v1047) [(1858, .box [AS v1037.2.1, AI (w64 (v1045 + v1037.2.2)), AI v2]), (1858, .box [AS [], AI 0, AI 0]), (1090, .box [AS v1039.1, AI v1039.2.1, AI v1039.2.2]), (1026, .box [AS v1037.1, AS v1037.2.1, AI v1037.2.2]), (1090, .box [AS [], AI 0, AI 0]), (1026, .box [AS [], AS [], AI 0]), (1, .row true 1 (v1004.map (eL 1 vI))), (0, .row true 3 (v50012.map eTurn))] false (con_impl_Turn_valid e1047) c25_ok (by first | rfl | simp) rfl ?_
     refine qp (AB (!v1047)) rfl ?_
     refine r_nil ?_
     refine cF hF (fun hF => ?_) fun hF => ?_
     ·
      refine ws 2562 2690 ?_
      refine qf (.sl 2562 0 0) [(2562, .row true 3 (([] : List TTurn).map eTurn)), (1858, .box [AS v1037.2.1, AI (w64 (v1045 + v1037.2.2)), AI v2]), (1858, .box [AS [], AI 0, AI 0]), (1090, .box [AS v1039.1, AI v1039.2.1, AI v1039.2.2]), (1026, .box [AS v1037.1, AS v1037.2.1, AI v1037.2.2]), (1090, .box [AS [], AI 0, AI 0]), (1026, .box [AS [], AS [], AI 0]), (1, .row true 1 (v1004.map (eL 1 vI))), (0, .row true 3 (v50012.map eTurn))] (by simp) ?_
      refine qp (AI 6) rfl ?_
      refine r_nil ?_
      refine w_ret ?_
      refine thenQ_r ?_
      refine blockQ_r ?_
      refine thenQ_r ?_
      refine thenQ_r ?_
      refine blockQ_r ?_
      refine thenQ_r ?_
      cases hF
      exact eR
     ·
      refine w_skip ?_
      refine thenQ_n ?_
      refine ws 2562 3074 ?_
      refine qp (.sl 0 0 v50012.length) rfl (qp (.agg [AS v1037.2.1, AI (w64 (v1045 + v1037.2.2)), AI v2]) rfl ?_)
      obtain ⟨v1048, e1048, hF⟩ := bind_get hF
      refine qc (.tup [AI v1048.1, AB v1048.2]) [(1858, .box [AS v1037.2.1, AI (w64 (v1045 + v1037.2.2)), AI v2]), (1858, .box [AS [], AI 0, AI 0]), (1090, .box [AS v1039.1, AI v1039.2.1, AI v1039.2.2]), (1026, .box [AS v1037.1, AS v1037.2.1, AI v1037.2.2]), (1090, .box [AS [], AI 0, AI 0]), (1026, .box [AS [], AS [], AI 0]), (1, .row true 1 (v1004.map (eL 1 vI))), (0, .row true 3 (v50012.map eTurn))] true (con_slices_BinarySearchFunc_STurn_Turn e1048) c26_ok (by simp [List.take_of_length_le]) rfl ?_
      refine qp (.tup [AI v1048.1, AB v1048.2]) rfl (qp (AI v1048.1) rfl (qp (AB v1048.2) rfl (qp (AI v1048.1) rfl (qp (AB v1048.2) rfl ?_))))
      refine r_nil ?_
      refine w_reg 3074 3458 rfl rfl ?_
      refine qp (.sl 0 0 v50012.length) rfl (qp (AI v1048.1) rfl (qp (.agg [AS v1037.2.1, AI (w64 (v1045 + v1037.2.2)), AI v2]) rfl ?_))
      refine qf (.sl 3266 0 ([(v1037.2.1, w64 (v1045 + v1037.2.2), v2)].length)) [(3266, .row true 3 ([(v1037.2.1, w64 (v1045 + v1037.2.2), v2)].map eTurn)), (1858, .box [AS v1037.2.1, AI (w64 (v1045 + v1037.2.2)), AI v2]), (1858, .box [AS [], AI 0, AI 0]), (1090, .box [AS v1039.1, AI v1039.2.1, AI v1039.2.2]), (1026, .box [AS v1037.1, AS v1037.2.1, AI v1037.2.2]), (1090, .box [AS [], AI 0, AI 0]), (1026, .box [AS [], AS [], AI 0]), (1, .row true 1 (v1004.map (eL 1 vI))), (0, .row true 3 (v50012.map eTurn))] (by simp [List.take_of_length_le]) ?_
      obtain ⟨v1049, e1049, hF⟩ := bind_get hF
      refine qX (.sl 3330 0 v1049.length) [(3330, .row true 3 (v1049.map eTurn)), (0, .dead), (3266, .row true 3 ([(v1037.2.1, w64 (v1045 + v1037.2.2), v2)].map eTurn)), (1858, .box [AS v1037.2.1, AI (w64 (v1045 + v1037.2.2)), AI v2]), (1858, .box [AS [], AI 0, AI 0]), (1090, .box [AS v1039.1, AI v1039.2.1, AI v1039.2.2]), (1026, .box [AS v1037.1, AS v1037.2.1, AI v1037.2.2]), (1090, .box [AS [], AI 0, AI 0]), (1026, .box [AS [], AS [], AI 0]), (1, .row true 1 (v1004.map (eL 1 vI))), (0, .row true 3 (v50012.map eTurn))] true rfl rfl (whole_row (by simp)) (con_ins_28 (e := eTurn) e1049) c28_ok (by simp [List.take_of_length_le]) (by simp [RV.r]) ?_
      refine qp (.sl 3330 0 v1049.length) rfl ?_
      refine r_nil ?_
      refine blockQ_n ?_
      refine thenQ_n ?_
      refine w_reg 3458 3586 rfl rfl ?_
      refine qp (AI (w64 (v50011 + 1))) rfl (qp (AI (w64 (v50011 + 1))) rfl ?_)
      refine r_nil ?_
      refine thenQ_n ?_
      refine ar (l' := [(0, AL 3 (v0.map eTurn)), (1, AL 3 (v1.map eAnswer)), (2, AI v2), (8, .sl 0 0 v1049.length), (33, .sl 1 0 v1004.length), (34, AI (v1004.length : Int)), (35, AI (w64 (v50011 + 1)))]) (L := [(1, .row true 1 (v1004.map (eL 1 vI))), (0, .row true 3 (v1049.map eTurn))]) [0, 1, 2, 8, 33, 34, 35] [(1, 1), (3330, 0)] 2 ⟨_, by rfl, hF⟩
  ·
   refine w_exit ?_
   refine thenQ_e ?_
   refine thenQ_e ?_
   refine blockQ_e ?_
   refine thenQ_n ?_
   refine w_seq ?_
   refine ws 66 258 ?_
   refine qp (.sl 0 0 v50012.length) rfl (qp (AI (v50012.length : Int)) rfl (qp (AB (decide ((24 : Int) < (v50012.length : Int)))) rfl ?_))
   refine r_nil ?_
   refine cF hF (fun hF => ?_) fun hF => ?_
   ·
    refine ws 258 386 ?_
    refine qf (.sl 258 0 0) [(258, .row true 3 (([] : List TTurn).map eTurn)), (1, .row true 1 (v1004.map (eL 1 vI))), (0, .row true 3 (v50012.map eTurn))] (by simp) ?_
    refine qp (AI 5) rfl ?_
    refine r_nil ?_
    refine w_ret ?_
    refine thenQ_r ?_
    cases hF
    exact eR
   ·
    refine w_skip ?_
    refine thenQ_n ?_
    refine ws 258 450 ?_
    refine qp (.sl 0 0 v50012.length) rfl (qp (.sl 0 0 v50012.length) rfl (qp (AI 0) rfl ?_))
    refine r_nil ?_
    refine w_ret ?_
    cases hF
    exact eR

def c61 : MC := (.seq (.reg [rg 2 (.p true (.mv (.c (.bool false))))]) (.seq (.reg [mvt 3 0, rg 4 (.p true (.bin .geq (.t 3) (.c (.int .u8 97)))), mvt 5 4, ⟨(some 6), (some (5, true)), (.p true (.mv (.t 0)))⟩, ⟨(some 7), (some (5, true)), (.p true (.bin .leq (.t 6) (.c (.int .u8 122))))⟩, rg 8 (.p true (.pick (.t 5) (.t 7) (.c (.bool false)))), mvt 2 8]) .ret))
theorem c61_is : compFn Try.prog 61 = some (c61, [(.tmp 2)]) := by kernel_rfl
theorem c61_ok : okFn Try.prog 61 = true := by kernel_rfl

noncomputable def F_spec_l01Small (v0 : Int) : Option (Bool) :=
 (bif (decide ((97 : Int) ≤ v0)) then some (decide (v0 ≤ (122 : Int)))
 else some false)
@[simp] def res_spec_l01Small (r : Bool) : RV := .one (.one (.val (.bool r)))
theorem con_spec_l01Small {v0 : Int} {r : Bool} (hF : F_spec_l01Small v0 = some r) : Con Try.prog 61 [.int .u8 v0] (res_spec_l01Small r) := by
 unfold F_spec_l01Small at hF
 refine con_of c61_is fun N => ?_
 refine ws 0 64 ?_
 refine qp (AB false) rfl ?_
 refine r_nil ?_
 refine ws 64 512 ?_
 refine qp (.val none (.int .u8 v0)) rfl (qp (AB (decide ((97 : Int) ≤ v0))) rfl (qp (AB (decide ((97 : Int) ≤ v0))) rfl ?_))
 refine q_case 5 hF rfl (fun hF => ?_) (fun hF => ?_)
 ·
  refine qg (.val none (.int .u8 v0)) rfl rfl (qg (AB (decide (v0 ≤ (122 : Int)))) rfl rfl (qp (AB (decide (v0 ≤ (122 : Int)))) rfl (qp (AB (decide (v0 ≤ (122 : Int)))) rfl ?_)))
  refine r_nil ?_
  refine w_ret ?_
  cases hF
  exact eR
 ·
  refine qn rfl (qn rfl (qp (AB false) rfl (qp (AB false) rfl ?_)))
  refine r_nil ?_
  refine w_ret ?_
  cases hF
  exact eR

def c62 : MC := (.seq (.reg [rg 2 (.p true (.mv (.c (.bool false))))]) (.seq (.reg [mvt 3 0, rg 4 (.p true (.bin .geq (.t 3) (.c (.int .u8 48)))), mvt 5 4, ⟨(some 6), (some (5, true)), (.p true (.mv (.t 0)))⟩, ⟨(some 7), (some (5, true)), (.p true (.bin .leq (.t 6) (.c (.int .u8 57))))⟩, rg 8 (.p true (.pick (.t 5) (.t 7) (.c (.bool false)))), mvt 2 8]) .ret))
theorem c62_is : compFn Try.prog 62 = some (c62, [(.tmp 2)]) := by kernel_rfl
theorem c62_ok : okFn Try.prog 62 = true := by kernel_rfl

noncomputable def F_spec_l01Digit (v0 : Int) : Option (Bool) :=
 (bif (decide ((48 : Int) ≤ v0)) then some (decide (v0 ≤ (57 : Int)))
 else some false)
@[simp] def res_spec_l01Digit (r : Bool) : RV := .one (.one (.val (.bool r)))
theorem con_spec_l01Digit {v0 : Int} {r : Bool} (hF : F_spec_l01Digit v0 = some r) : Con Try.prog 62 [.int .u8 v0] (res_spec_l01Digit r) := by
 unfold F_spec_l01Digit at hF
 refine con_of c62_is fun N => ?_
 refine ws 0 64 ?_
 refine qp (AB false) rfl ?_
 refine r_nil ?_
 refine ws 64 512 ?_
 refine qp (.val none (.int .u8 v0)) rfl (qp (AB (decide ((48 : Int) ≤ v0))) rfl (qp (AB (decide ((48 : Int) ≤ v0))) rfl ?_))
 refine q_case 5 hF rfl (fun hF => ?_) (fun hF => ?_)
 ·
  refine qg (.val none (.int .u8 v0)) rfl rfl (qg (AB (decide (v0 ≤ (57 : Int)))) rfl rfl (qp (AB (decide (v0 ≤ (57 : Int)))) rfl (qp (AB (decide (v0 ≤ (57 : Int)))) rfl ?_)))
  refine r_nil ?_
  refine w_ret ?_
  cases hF
  exact eR
 ·
  refine qn rfl (qn rfl (qp (AB false) rfl (qp (AB false) rfl ?_)))
  refine r_nil ?_
  refine w_ret ?_
  cases hF
  exact eR

def c56 : MC := (.seq (.reg [rg 2 (.p true (.mv (.c (.bool false))))]) (.seq (.seq (.reg [mvt 4 0, rg 5 (.p true (.bin .eql (.t 4) (.c (.str [])))), mvt 6 5, ⟨(some 7), (some (6, false)), (.p true (.mv (.t 0)))⟩, ⟨(some 8), (some (6, false)), (.p true (.lens (.t 7)))⟩, ⟨(some 9), (some (6, false)), (.p true (.bin .gtr (.t 8) (.c (.int .i64 10))))⟩, rg 10 (.p true (.pick (.t 6) (.c (.bool true)) (.t 9))), mvt 11 10, ⟨(some 12), (some (11, false)), (.p true (.mv (.t 0)))⟩, ⟨(some 13), (some (11, false)), (.p true (.ixs (.t 12) (.c (.int .i64 0))))⟩, ⟨(some 14), (some (11, false)), (.call true 61 [(.t 13)])⟩, ⟨(some 15), (some (11, false)), (.p true (.not (.t 14)))⟩, rg 16 (.p true (.pick (.t 11) (.c (.bool true)) (.t 15)))]) (.cond (.t 16) (.seq (.reg [rg 2 (.p true (.mv (.c (.bool false))))]) .ret) .skip)) (.seq (.seq (.reg [rg 3 (.p true (.mv (.c (.int .i64 0))))]) (.block 0 (.loop (.seq (.seq (.reg [mvt 17 3, mvt 18 0, rg 19 (.p true (.lens (.t 18))), rg 20 (.p true (.bin .lss (.t 17) (.t 19)))]) (.cond (.t 20) .skip (.exit 0))) (.seq (.block 1 (.seq (.reg [mvt 23 0, mvt 24 3, rg 25 (.p true (.ixs (.t 23) (.t 24))), rg 26 (.call true 61 [(.t 25)]), rg 27 (.p true (.not (.t 26))), mvt 28 27, ⟨(some 29), (some (28, true)), (.p true (.mv (.t 0)))⟩, ⟨(some 30), (some (28, true)), (.p true (.mv (.t 3)))⟩, ⟨(some 31), (some (28, true)), (.p true (.ixs (.t 29) (.t 30)))⟩, ⟨(some 32), (some (28, true)), (.call true 62 [(.t 31)])⟩, ⟨(some 33), (some (28, true)), (.p true (.not (.t 32)))⟩, rg 34 (.p true (.pick (.t 28) (.t 33) (.c (.bool false))))]) (.cond (.t 34) (.seq (.reg [rg 2 (.p true (.mv (.c (.bool false))))]) .ret) .skip))) (.reg [mvt 21 3, rg 22 (.p true (.bin .add (.t 21) (.c (.int .i64 1)))), mvt 3 22])))))) (.seq (.reg [rg 2 (.p true (.mv (.c (.bool true))))]) .ret))))
theorem c56_is : compFn Try.prog 56 = some (c56, [(.tmp 2)]) := by kernel_rfl
theorem c56_ok : okFn Try.prog 56 = true := by kernel_rfl

noncomputable def F_spec_l01Name_l0 (v0 : List UInt8) (k1 : Int → Option (Bool)) : Int → Option (Bool)
 | v50003 => (bif (decide (v50003 < (v0.length : Int))) then ((ix v0 v50003).bind fun v1010 => ((F_spec_l01Small (v1010.toNat : Int)).bind fun v1011 => (bif (!v1011) then ((ix v0 v50003).bind fun v1012 => ((F_spec_l01Digit (v1012.toNat : Int)).bind fun v1013 => (bif (!v1013) then some false
 else k1 (w64 (v50003 + 1)))))
 else k1 (w64 (v50003 + 1)))))
 else some true)
noncomputable def F_spec_l01Name (v0 : List UInt8) : Option (Bool) :=
 (bif (decide (v0 = [])) then some false
 else (bif (decide ((10 : Int) < (v0.length : Int))) then some false
 else ((ix v0 0).bind fun v1000 => ((F_spec_l01Small (v1000.toNat : Int)).bind fun v1001 => (bif (!v1001) then some false
 else loop (F_spec_l01Name_l0 v0) 0)))))
@[simp] def res_spec_l01Name (r : Bool) : RV := .one (.one (.val (.bool r)))
theorem con_spec_l01Name {v0 : List UInt8} {r : Bool} (hF : F_spec_l01Name v0 = some r) : Con Try.prog 56 [.str v0] (res_spec_l01Name r) := by
 unfold F_spec_l01Name at hF
 refine con_of c56_is fun N => ?_
 refine ws 0 64 ?_
 refine qp (AB false) rfl ?_
 refine r_nil ?_
 refine w_seq ?_
 refine ws 64 896 ?_
 refine qp (AS v0) rfl (qp (AB (decide (v0 = []))) rfl (qp (AB (decide (v0 = []))) rfl ?_))
 refine q_case 6 hF rfl (fun hF => ?_) (fun hF => ?_)
 ·
  refine qn rfl (qn rfl (qn rfl (qp (AB true) rfl (qp (AB true) rfl (qn rfl (qn rfl (qn rfl ?_)))))))
  refine qn rfl (qp (AB true) rfl ?_)
  refine r_nil ?_
  refine w_true rfl ?_
  refine ws 896 960 ?_
  refine qp (AB false) rfl ?_
  refine r_nil ?_
  refine w_ret ?_
  refine thenQ_r ?_
  cases hF
  exact eR
 ·
  refine qg (AS v0) rfl rfl (qg (AI (v0.length : Int)) rfl rfl (qg (AB (decide ((10 : Int) < (v0.length : Int)))) rfl rfl (qp (AB (decide ((10 : Int) < (v0.length : Int)))) rfl (qp (AB (decide ((10 : Int) < (v0.length : Int)))) rfl ?_))))
  refine q_case 11 hF rfl (fun hF => ?_) (fun hF => ?_)
  ·
   refine qn rfl (qn rfl (qn rfl (qn rfl (qp (AB true) rfl ?_))))
   refine r_nil ?_
   refine w_true rfl ?_
   refine ws 896 960 ?_
   refine qp (AB false) rfl ?_
   refine r_nil ?_
   refine w_ret ?_
   refine thenQ_r ?_
   cases hF
   exact eR
  ·
   refine qg (AS v0) rfl rfl ?_
   obtain ⟨v1000, e1000, hF⟩ := bind_get hF
   refine qg (.val none (.int .u8 (v1000.toNat : Int))) rfl (ev_ixs rfl rfl e1000) ?_
   obtain ⟨v1001, e1001, hF⟩ := bind_get hF
   refine qcg (AB v1001) [] false rfl (con_spec_l01Small e1001) c61_ok (by first | rfl | simp) rfl ?_
   refine qg (AB (!v1001)) rfl rfl (qp (AB (!v1001)) rfl ?_)
   refine r_nil ?_
   refine cF hF (fun hF => ?_) fun hF => ?_
   ·
    refine ws 896 960 ?_
    refine qp (AB false) rfl ?_
    refine r_nil ?_
    refine w_ret ?_
    refine thenQ_r ?_
    cases hF
    exact eR
   ·
    refine w_skip ?_
    refine thenQ_n ?_
    refine w_seq ?_
    refine ws 896 960 ?_
    refine qp (AI 0) rfl ?_
    refine r_nil ?_
    refine w_block ?_
    refine wr (l' := [(0, AS v0), (3, AI 0)]) (L := []) [0, 3] [] 1 ?_
    refine w_loopF (F_spec_l01Name_l0 v0) (fun s : Int => mkS [(0, AS v0), (3, AI s)] (fo []) 1) hF ?_
    rintro k1 v50003 hF
    rw [F_spec_l01Name_l0] at hF
    try dsimp only
    refine w_seq ?_
    refine ws 1 257 ?_
    refine qp (AI v50003) rfl (qp (AS v0) rfl (qp (AI (v0.length : Int)) rfl (qp (AB (decide (v50003 < (v0.length : Int)))) rfl ?_)))
    refine r_nil ?_
    refine cF hF (fun hF => ?_) fun hF => ?_
    ·
     refine w_skip ?_
     refine thenQ_n ?_
     refine w_seq ?_
     refine w_block ?_
     refine ws 257 1025 ?_
     refine qp (AS v0) rfl (qp (AI v50003) rfl ?_)
     obtain ⟨v1010, e1010, hF⟩ := bind_get hF
     refine qp (.val none (.int .u8 (v1010.toNat : Int))) (ev_ixs rfl rfl e1010) ?_
     obtain ⟨v1011, e1011, hF⟩ := bind_get hF
     refine qc (AB v1011) [] false (con_spec_l01Small e1011) c61_ok (by first | rfl | simp) rfl ?_
     refine qp (AB (!v1011)) rfl (qp (AB (!v1011)) rfl ?_)
     refine q_case 28 hF rfl (fun hF => ?_) (fun hF => ?_)
     ·
      refine qg (AS v0) rfl rfl (qg (AI v50003) rfl rfl ?_)
      obtain ⟨v1012, e1012, hF⟩ := bind_get hF
      refine qg (.val none (.int .u8 (v1012.toNat : Int))) rfl (ev_ixs rfl rfl e1012) ?_
      obtain ⟨v1013, e1013, hF⟩ := bind_get hF
      refine qcg (AB v1013) [] false rfl (con_spec_l01Digit e1013) c62_ok (by first | rfl | simp) rfl ?_
      refine qg (AB (!v1013)) rfl rfl (qp (AB (!v1013)) rfl ?_)
      refine r_nil ?_
      refine cF hF (fun hF => ?_) fun hF => ?_
      ·
       refine ws 1025 1089 ?_
       refine qp (AB false) rfl ?_
       refine r_nil ?_
       refine w_ret ?_
       refine blockQ_r ?_
       refine thenQ_r ?_
       refine thenQ_r ?_
       refine blockQ_r ?_
       refine thenQ_r ?_
       cases hF
       exact eR
      ·
       refine w_skip ?_
       refine blockQ_n ?_
       refine thenQ_n ?_
       refine w_reg 1025 1217 rfl rfl ?_
       refine qp (AI v50003) rfl (qp (AI (w64 (v50003 + 1))) rfl (qp (AI (w64 (v50003 + 1))) rfl ?_))
       refine r_nil ?_
       refine thenQ_n ?_
       refine ar (l' := [(0, AS v0), (3, AI (w64 (v50003 + 1)))]) (L := []) [0, 3] [] 1 ⟨_, by rfl, hF⟩
     ·
      refine qn rfl (qn rfl (qn rfl (qn rfl (qn rfl (qp (AB false) rfl ?_)))))
      refine r_nil ?_
      refine w_false rfl ?_
      refine w_skip ?_
      refine blockQ_n ?_
      refine thenQ_n ?_
      refine w_reg 1025 1217 rfl rfl ?_
      refine qp (AI v50003) rfl (qp (AI (w64 (v50003 + 1))) rfl (qp (AI (w64 (v50003 + 1))) rfl ?_))
      refine r_nil ?_
      refine thenQ_n ?_
      refine ar (l' := [(0, AS v0), (3, AI (w64 (v50003 + 1)))]) (L := []) [0, 3] [] 1 ⟨_, by rfl, hF⟩
    ·
     refine w_exit ?_
     refine thenQ_e ?_
     refine thenQ_e ?_
     refine blockQ_e ?_
     refine thenQ_n ?_
     refine ws 257 321 ?_
     refine qp (AB true) rfl ?_
     refine r_nil ?_
     refine w_ret ?_
     cases hF
     exact eR

def c57 : MC := (.seq (.reg [rg 6 (.p true (.mv (.c (.bool false))))]) (.seq (.reg [mvt 7 0, mvt 8 1, rg 9 (.p true (.bin .geq (.t 7) (.t 8))), mvt 10 9, ⟨(some 11), (some (10, true)), (.p true (.mv (.t 0)))⟩, ⟨(some 12), (some (10, true)), (.p true (.mv (.t 2)))⟩, ⟨(some 13), (some (10, true)), (.p true (.bin .leq (.t 11) (.t 12)))⟩, rg 14 (.p true (.pick (.t 10) (.t 13) (.c (.bool false)))), mvt 6 14]) .ret))
theorem c57_is : compFn Try.prog 57 = some (c57, [(.tmp 6)]) := by kernel_rfl
theorem c57_ok : okFn Try.prog 57 = true := by kernel_rfl

noncomputable def F_spec_l00In (v0 : Int) (v1 : Int) (v2 : Int) : Option (Bool) :=
 (bif (decide (v1 ≤ v0)) then some (decide (v0 ≤ v2))
 else some false)
@[simp] def res_spec_l00In (r : Bool) : RV := .one (.one (.val (.bool r)))
theorem con_spec_l00In {v0 : Int} {v1 : Int} {v2 : Int} {r : Bool} (hF : F_spec_l00In v0 v1 v2 = some r) : Con Try.prog 57 [.int .i64 v0, .int .i64 v1, .int .i64 v2] (res_spec_l00In r) := by
 unfold F_spec_l00In at hF
 refine con_of c57_is fun N => ?_
 refine ws 0 64 ?_
 refine qp (AB false) rfl ?_
 refine r_nil ?_
 refine ws 64 640 ?_
 refine qp (AI v0) rfl (qp (AI v1) rfl (qp (AB (decide (v1 ≤ v0))) rfl (qp (AB (decide (v1 ≤ v0))) rfl ?_)))
 refine q_case 10 hF rfl (fun hF => ?_) (fun hF => ?_)
 ·
  refine qg (AI v0) rfl rfl (qg (AI v2) rfl rfl (qg (AB (decide (v0 ≤ v2))) rfl rfl (qp (AB (decide (v0 ≤ v2))) rfl (qp (AB (decide (v0 ≤ v2))) rfl ?_))))
  refine r_nil ?_
  refine w_ret ?_
  cases hF
  exact eR
 ·
  refine qn rfl (qn rfl (qn rfl (qp (AB false) rfl (qp (AB false) rfl ?_))))
  refine r_nil ?_
  refine w_ret ?_
  cases hF
  exact eR

def c46 : MC := (.seq (.reg [rg 2 (.p true (.mv (.c (.bool false))))]) (.seq (.reg [mvt 3 0, rg 4 (.p true (.nck (.t 3))), rg 5 (.p true (.fad (.t 4) 0)), rg 6 (.p true (.ld (.t 5) 1 false)), rg 7 (.call true 56 [(.t 6)]), mvt 8 7, ⟨(some 9), (some (8, true)), (.p true (.mv (.t 0)))⟩, ⟨(some 10), (some (8, true)), (.p true (.nck (.t 9)))⟩, ⟨(some 11), (some (8, true)), (.p true (.fad (.t 10) 1))⟩, ⟨(some 12), (some (8, true)), (.p true (.ld (.t 11) 1 false))⟩, ⟨(some 13), (some (8, true)), (.call true 57 [(.t 12), (.c (.int .i64 0)), (.c (.int .i64 10000))])⟩, rg 14 (.p true (.pick (.t 8) (.t 13) (.c (.bool false)))), mvt 15 14, ⟨(some 16), (some (15, true)), (.p true (.mv (.t 0)))⟩, ⟨(some 17), (some (15, true)), (.p true (.nck (.t 16)))⟩, ⟨(some 18), (some (15, true)), (.p true (.fad (.t 17) 2))⟩, ⟨(some 19), (some (15, true)), (.p true (.ld (.t 18) 1 false))⟩, ⟨(some 20), (some (15, true)), (.call true 57 [(.t 19), (.c (.int .i64 1)), (.c (.int .i64 10000))])⟩, rg 21 (.p true (.pick (.t 15) (.t 20) (.c (.bool false)))), mvt 2 21]) .ret))
theorem c46_is : compFn Try.prog 46 = some (c46, [(.tmp 2)]) := by kernel_rfl
theorem c46_ok : okFn Try.prog 46 = true := by kernel_rfl

noncomputable def F_spec_l23One (v0 : TTurn) : Option (Bool) :=
 ((F_spec_l01Name v0.1).bind fun v1000 => (bif v1000 then ((F_spec_l00In v0.2.1 0 10000).bind fun v1001 => (bif v1001 then ((F_spec_l00In v0.2.2 1 10000).bind fun v1002 => some v1002)
 else some false))
 else some false))
@[simp] def res_spec_l23One (r : Bool) : RV := .one (.one (.val (.bool r)))
theorem con_spec_l23One {v0 : TTurn} {r : Bool} (hF : F_spec_l23One v0 = some r) : Con Try.prog 46 [.ptr [.str v0.1, .int .i64 v0.2.1, .int .i64 v0.2.2]] (res_spec_l23One r) := by
 unfold F_spec_l23One at hF
 refine con_of c46_is fun N => ?_
 refine ws 0 64 ?_
 refine qp (AB false) rfl ?_
 refine r_nil ?_
 refine ws 64 1344 ?_
 refine qp (.val none (.ptr [.str v0.1, .int .i64 v0.2.1, .int .i64 v0.2.2])) rfl (qp (.val none (.ptr [.str v0.1, .int .i64 v0.2.1, .int .i64 v0.2.2])) rfl (qp (.val none (.ptr [.str v0.1, .int .i64 v0.2.1, .int .i64 v0.2.2])) rfl (qp (AS v0.1) rfl ?_)))
 obtain ⟨v1000, e1000, hF⟩ := bind_get hF
 refine qc (AB v1000) [] false (con_spec_l01Name e1000) c56_ok (by first | rfl | simp) rfl ?_
 refine qp (AB v1000) rfl ?_
 refine q_case 8 hF rfl (fun hF => ?_) (fun hF => ?_)
 ·
  refine qg (.val none (.ptr [.str v0.1, .int .i64 v0.2.1, .int .i64 v0.2.2])) rfl rfl (qg (.val none (.ptr [.str v0.1, .int .i64 v0.2.1, .int .i64 v0.2.2])) rfl rfl (qg (.val none (.ptr [.int .i64 v0.2.1, .int .i64 v0.2.2])) rfl rfl (qg (AI v0.2.1) rfl rfl ?_)))
  obtain ⟨v1001, e1001, hF⟩ := bind_get hF
  refine qcg (AB v1001) [] false rfl (con_spec_l00In e1001) c57_ok (by first | rfl | simp) rfl ?_
  refine qp (AB v1001) rfl (qp (AB v1001) rfl ?_)
  refine q_case 15 hF rfl (fun hF => ?_) (fun hF => ?_)
  ·
   refine qg (.val none (.ptr [.str v0.1, .int .i64 v0.2.1, .int .i64 v0.2.2])) rfl rfl (qg (.val none (.ptr [.str v0.1, .int .i64 v0.2.1, .int .i64 v0.2.2])) rfl rfl (qg (.val none (.ptr [.int .i64 v0.2.2])) rfl rfl (qg (AI v0.2.2) rfl rfl ?_)))
   obtain ⟨v1002, e1002, hF⟩ := bind_get hF
   refine qcg (AB v1002) [] false rfl (con_spec_l00In e1002) c57_ok (by first | rfl | simp) rfl ?_
   refine qp (AB v1002) rfl (qp (AB v1002) rfl ?_)
   refine r_nil ?_
   refine w_ret ?_
   cases hF
   exact eR
  ·
   refine qn rfl (qn rfl (qn rfl (qn rfl (qn rfl (qp (AB false) rfl (qp (AB false) rfl ?_))))))
   refine r_nil ?_
   refine w_ret ?_
   cases hF
   exact eR
 ·
  refine qn rfl (qn rfl (qn rfl (qn rfl (qn rfl (qp (AB false) rfl (qp (AB false) rfl (qn rfl ?_)))))))
  refine qn rfl (qn rfl (qn rfl (qn rfl (qp (AB false) rfl (qp (AB false) rfl ?_)))))
  refine r_nil ?_
  refine w_ret ?_
  cases hF
  exact eR

def c29 : MC := (.seq (.reg [rg 2 (.p true (.mv (.c (.bool false))))]) (.seq (.seq (.reg [rg 3 (.p true (.mv (.c (.int .i64 0))))]) (.block 0 (.loop (.seq (.seq (.reg [mvt 4 3, mvt 5 0, rg 6 (.p true (.len (.t 5))), rg 7 (.p true (.bin .lss (.t 4) (.t 6)))]) (.cond (.t 7) .skip (.exit 0))) (.seq (.block 1 (.seq (.reg [rg 10 (.p false (.mv (.t 0))), rg 11 (.p false (.mv (.t 3))), rg 12 (.p false (.iad (.t 10) (.t 11) 3)), rg 13 (.call false 46 [(.t 12)]), rg 14 (.p false (.not (.t 13))), rg 15 (.p false (.mv (.t 14))), ⟨(some 16), (some (15, false)), (.p false (.mv (.t 3)))⟩, ⟨(some 17), (some (15, false)), (.p false (.bin .gtr (.t 16) (.c (.int .i64 0))))⟩, ⟨(some 18), (some (15, false)), (.p false (.mv (.t 17)))⟩, ⟨(some 19), (some (18, true)), (.p false (.mv (.t 0)))⟩, ⟨(some 20), (some (18, true)), (.p false (.mv (.t 3)))⟩, ⟨(some 21), (some (18, true)), (.p false (.bin .sub (.t 20) (.c (.int .i64 1))))⟩, ⟨(some 22), (some (18, true)), (.p false (.iad (.t 19) (.t 21) 3))⟩, ⟨(some 23), (some (18, true)), (.p false (.mv (.t 0)))⟩, ⟨(some 24), (some (18, true)), (.p false (.mv (.t 3)))⟩, ⟨(some 25), (some (18, true)), (.p false (.iad (.t 23) (.t 24) 3))⟩, ⟨(some 26), (some (18, true)), (.call false 47 [(.t 22), (.t 25)])⟩, ⟨(some 27), (some (18, true)), (.p false (.not (.t 26)))⟩, ⟨(some 28), (some (15, false)), (.p false (.pick (.t 18) (.t 27) (.c (.bool false))))⟩, rg 29 (.p false (.pick (.t 15) (.c (.bool true)) (.t 28)))]) (.cond (.t 29) (.seq (.reg [rg 2 (.p true (.mv (.c (.bool false))))]) .ret) .skip))) (.reg [mvt 8 3, rg 9 (.p true (.bin .add (.t 8) (.c (.int .i64 1)))), mvt 3 9])))))) (.seq (.reg [mvt 30 0, rg 31 (.p true (.len (.t 30))), rg 32 (.p true (.bin .leq (.t 31) (.c (.int .i64 24)))), mvt 2 32]) .ret)))
theorem c29_is : compFn Try.prog 29 = some (c29, [(.tmp 2)]) := by kernel_rfl
theorem c29_ok : okFn Try.prog 29 = true := by kernel_rfl

noncomputable def F_spec_l23Ok_l0 (v0 : List TTurn) (k0 : Int → Option (Bool)) : Int → Option (Bool)
 | v50001 => (bif (decide (v50001 < (v0.length : Int))) then ((ix v0 v50001).bind fun v1000 => ((F_spec_l23One v1000).bind fun v1001 => (bif (!v1001) then some false
 else (bif (decide ((0 : Int) < v50001)) then ((ix v0 (w64 (v50001 - 1))).bind fun v1002 => ((ix v0 v50001).bind fun v1003 => ((F_spec_l23Before v1002 v1003).bind fun v1004 => (bif (!v1004) then some false
 else k0 (w64 (v50001 + 1))))))
 else k0 (w64 (v50001 + 1))))))
 else some (decide ((v0.length : Int) ≤ (24 : Int))))
noncomputable def F_spec_l23Ok (v0 : List TTurn) : Option (Bool) :=
 loop (F_spec_l23Ok_l0 v0) 0
@[simp] def res_spec_l23Ok (r : Bool) : RV := .one (.one (.val (.bool r)))
theorem con_spec_l23Ok {v0 : List TTurn} {r : Bool} (hF : F_spec_l23Ok v0 = some r) : Con Try.prog 29 [.sl 3 (v0.map eTurn)] (res_spec_l23Ok r) := by
 unfold F_spec_l23Ok at hF
 refine con_of c29_is fun N => ?_
 refine ws 0 64 ?_
 refine qp (AB false) rfl ?_
 refine r_nil ?_
 refine w_seq ?_
 refine ws 64 128 ?_
 refine qp (AI 0) rfl ?_
 refine r_nil ?_
 refine w_block ?_
 refine wr (l' := [(0, AL 3 (v0.map eTurn)), (3, AI 0)]) (L := []) [0, 3] [] 1 ?_
 refine w_loopF (F_spec_l23Ok_l0 v0) (fun s : Int => mkS [(0, AL 3 (v0.map eTurn)), (3, AI s)] (fo []) 1) hF ?_
 rintro k0 v50001 hF
 rw [F_spec_l23Ok_l0] at hF
 try dsimp only
 refine w_seq ?_
 refine ws 1 257 ?_
 refine qp (AI v50001) rfl (qp (AL 3 (v0.map eTurn)) rfl (qp (AI (v0.length : Int)) (ev_len_n rfl) (qp (AB (decide (v50001 < (v0.length : Int)))) rfl ?_)))
 refine r_nil ?_
 refine cF hF (fun hF => ?_) fun hF => ?_
 ·
  refine w_skip ?_
  refine thenQ_n ?_
  refine w_seq ?_
  refine w_block ?_
  refine ws 257 1537 ?_
  refine qp (AL 3 (v0.map eTurn)) rfl (qp (AI v50001) rfl ?_)
  obtain ⟨v1000, e1000, hF⟩ := bind_get hF
  refine qp (.val none (.ptr [.str v1000.1, .int .i64 v1000.2.1, .int .i64 v1000.2.2])) (ev_iad_n rfl rfl e1000 rfl) ?_
  obtain ⟨v1001, e1001, hF⟩ := bind_get hF
  refine qc (AB v1001) [] false (con_spec_l23One e1001) c46_ok (by first | rfl | simp) rfl ?_
  refine qp (AB (!v1001)) rfl (qp (AB (!v1001)) rfl ?_)
  refine q_case 15 hF rfl (fun hF => ?_) (fun hF => ?_)
  ·
   refine qn rfl (qn rfl (qn rfl (qu rfl (qu rfl (qu rfl (qu rfl (qu rfl ?_)))))))
   refine qu rfl (qu rfl (qu rfl (qu rfl (qn rfl (qp (AB true) rfl ?_)))))
   refine r_nil ?_
   refine w_true rfl ?_
   refine ws 1537 1601 ?_
   refine qp (AB false) rfl ?_
   refine r_nil ?_
   refine w_ret ?_
   refine blockQ_r ?_
   refine thenQ_r ?_
   refine thenQ_r ?_
   refine blockQ_r ?_
   refine thenQ_r ?_
   cases hF
   exact eR
  ·
   refine qg (AI v50001) rfl rfl (qg (AB (decide ((0 : Int) < v50001))) rfl rfl (qg (AB (decide ((0 : Int) < v50001))) rfl rfl ?_))
   refine q_case 18 hF rfl (fun hF => ?_) (fun hF => ?_)
   ·
    refine qg (AL 3 (v0.map eTurn)) rfl rfl (qg (AI v50001) rfl rfl (qg (AI (w64 (v50001 - 1))) rfl rfl ?_))
    obtain ⟨v1002, e1002, hF⟩ := bind_get hF
    refine qg (.val none (.ptr [.str v1002.1, .int .i64 v1002.2.1, .int .i64 v1002.2.2])) rfl (ev_iad_n rfl rfl e1002 rfl) (qg (AL 3 (v0.map eTurn)) rfl rfl (qg (AI v50001) rfl rfl ?_))
    obtain ⟨v1003, e1003, hF⟩ := bind_get hF
    refine qg (.val none (.ptr [.str v1003.1, .int .i64 v1003.2.1, .int .i64 v1003.2.2])) rfl (ev_iad_n rfl rfl e1003 rfl) ?_
    obtain ⟨v1004, e1004, hF⟩ := bind_get hF
    refine qcg (AB v1004) [] false rfl (con_spec_l23Before e1004) c47_ok (by first | rfl | simp) rfl ?_
    refine qg (AB (!v1004)) rfl rfl (qg (AB (!v1004)) rfl rfl (qp (AB (!v1004)) rfl ?_))
    refine r_nil ?_
    refine cF hF (fun hF => ?_) fun hF => ?_
    ·
     refine ws 1537 1601 ?_
     refine qp (AB false) rfl ?_
     refine r_nil ?_
     refine w_ret ?_
     refine blockQ_r ?_
     refine thenQ_r ?_
     refine thenQ_r ?_
     refine blockQ_r ?_
     refine thenQ_r ?_
     cases hF
     exact eR
    ·
     refine w_skip ?_
     refine blockQ_n ?_
     refine thenQ_n ?_
     refine w_reg 1537 1729 rfl rfl ?_
     refine qp (AI v50001) rfl (qp (AI (w64 (v50001 + 1))) rfl (qp (AI (w64 (v50001 + 1))) rfl ?_))
     refine r_nil ?_
     refine thenQ_n ?_
     refine ar (l' := [(0, AL 3 (v0.map eTurn)), (3, AI (w64 (v50001 + 1)))]) (L := []) [0, 3] [] 1 ⟨_, by rfl, hF⟩
   ·
    refine qn rfl (qn rfl (qn rfl (qn rfl (qn rfl (qn rfl (qn rfl (qn rfl ?_)))))))
    refine qn rfl (qg (AB false) rfl rfl (qp (AB false) rfl ?_))
    refine r_nil ?_
    refine w_false rfl ?_
    refine w_skip ?_
    refine blockQ_n ?_
    refine thenQ_n ?_
    refine w_reg 1537 1729 rfl rfl ?_
    refine qp (AI v50001) rfl (qp (AI (w64 (v50001 + 1))) rfl (qp (AI (w64 (v50001 + 1))) rfl ?_))
    refine r_nil ?_
    refine thenQ_n ?_
    refine ar (l' := [(0, AL 3 (v0.map eTurn)), (3, AI (w64 (v50001 + 1)))]) (L := []) [0, 3] [] 1 ⟨_, by rfl, hF⟩
 ·
  refine w_exit ?_
  refine thenQ_e ?_
  refine thenQ_e ?_
  refine blockQ_e ?_
  refine thenQ_n ?_
  refine ws 257 513 ?_
  refine qp (AL 3 (v0.map eTurn)) rfl (qp (AI (v0.length : Int)) (ev_len_n rfl) (qp (AB (decide ((v0.length : Int) ≤ (24 : Int)))) rfl (qp (AB (decide ((v0.length : Int) ≤ (24 : Int)))) rfl ?_)))
  refine r_nil ?_
  refine w_ret ?_
  cases hF
  exact eR

def c9 : MC := (.seq (.reg [rg 2 (.p true (.mv (.c (.bool false))))]) (.seq (.reg [mvt 3 0, rg 4 (.call true 29 [(.t 3)]), mvt 2 4]) .ret))
theorem c9_is : compFn Try.prog 9 = some (c9, [(.tmp 2)]) := by kernel_rfl
theorem c9_ok : okFn Try.prog 9 = true := by kernel_rfl

noncomputable def F_spec_ValidTurns (v0 : List TTurn) : Option (Bool) :=
 ((F_spec_l23Ok v0).bind fun v1000 => some v1000)
@[simp] def res_spec_ValidTurns (r : Bool) : RV := .one (.one (.val (.bool r)))
theorem con_spec_ValidTurns {v0 : List TTurn} {r : Bool} (hF : F_spec_ValidTurns v0 = some r) : Con Try.prog 9 [.sl 3 (v0.map eTurn)] (res_spec_ValidTurns r) := by
 unfold F_spec_ValidTurns at hF
 refine con_of c9_is fun N => ?_
 refine ws 0 64 ?_
 refine qp (AB false) rfl ?_
 refine r_nil ?_
 refine ws 64 256 ?_
 refine qp (AL 3 (v0.map eTurn)) rfl ?_
 obtain ⟨v1000, e1000, hF⟩ := bind_get hF
 refine qc (AB v1000) [] false (con_spec_l23Ok e1000) c29_ok (by first | rfl | simp) rfl ?_
 refine qp (AB v1000) rfl ?_
 refine r_nil ?_
 refine w_ret ?_
 cases hF
 exact eR

def c10 : MC := (.seq (.reg [rg 2 (.f (.nilrow 1)), rg 3 (.p true (.mv (.c (.int .i64 0))))]) (.seq (.seq (.reg [mvt 8 0, rg 9 (.call true 18 [(.t 8)]), rg 10 (.p true (.not (.t 9)))]) (.cond (.t 10) (.seq (.reg [rg 2 (.f (.nilrow 1)), rg 3 (.p true (.mv (.c (.int .i64 1))))]) .ret) .skip)) (.seq (.reg [rg 4 (.f (.nilrow 1))]) (.seq (.reg [rg 5 (.p true (.mv (.c (.int .i64 0))))]) (.seq (.seq (.reg [mvt 11 0, rg 12 (.p true (.len (.t 11))), rg 13 (.p true (.mv (.c (.int .i64 0))))]) (.block 0 (.loop (.seq (.reg [rg 14 (.p true (.bin .lss (.t 13) (.t 12)))]) (.seq (.cond (.t 14) .skip (.exit 0)) (.seq (.block 1 (.seq (.reg [rg 15 (.p true (.iad (.t 11) (.t 13) 3)), rg 16 (.p true (.ld (.t 15) 3 true)), rg 7 (.f (.alloc [((.str []), (0, false)), ((.int .i64 0), (0, false)), ((.int .i64 0), (0, false))])), ⟨none, none, (.f (.st (.t 7) (.t 16) 3))⟩]) (.seq (.seq (.reg [rg 17 (.p true (.fad (.t 7) 1)), rg 18 (.p true (.ld (.t 17) 1 false)), mvt 19 5, rg 20 (.p true (.bin .gtr (.t 18) (.t 19)))]) (.cond (.t 20) (.reg [mvt 21 4, mvt 22 5, rg 23 (.p true (.fad (.t 7) 1)), rg 24 (.p true (.ld (.t 23) 1 false)), rg 25 (.f (.bsl 1 [(.t 22), (.t 24)])), rg 26 (.f (.bsl 1 [(.t 25)])), rg 27 (.f (.app (.t 21) (.t 26) 1 24 true)), mvt 4 27]) .skip)) (.reg [mvt 28 5, rg 29 (.p true (.ld (.t 7) 3 true)), rg 30 (.call true 23 [(.t 29)]), rg 31 (.p true (.mnx true (.t 28) (.t 30))), mvt 5 31])))) (.reg [rg 32 (.p true (.bin .add (.t 13) (.c (.int .i64 1)))), mvt 13 32]))))))) (.seq (.reg [mvt 33 4, mvt 2 33, rg 3 (.p true (.mv (.c (.int .i64 0))))]) .ret))))))
theorem c10_is : compFn Try.prog 10 = some (c10, [(.tmp 2), (.tmp 3)]) := by kernel_rfl
theorem c10_ok : okFn Try.prog 10 = true := by kernel_rfl

noncomputable def F_impl_SilencesOf_l0 (v0 : List TTurn) (k1 : Int × Int × (List (List Int)) → Option ((List (List Int)) × Int)) : Int × Int × (List (List Int)) → Option ((List (List Int)) × Int)
 | (v50009, v50010, v50011) => (bif (decide (v50010 < (v0.length : Int))) then ((ix v0 v50010).bind fun v1009 => (bif (decide (v50009 < v1009.2.1)) then (need (room (v50011.length + [[v50009, v1009.2.1]].length) 24) (((F_impl_Turn_end v1009).bind fun v1011 => k1 ((if v1011 > v50009 then v1011 else v50009), w64 (v50010 + 1), v50011 ++ [[v50009, v1009.2.1]]))))
 else ((F_impl_Turn_end v1009).bind fun v1012 => k1 ((if v1012 > v50009 then v1012 else v50009), w64 (v50010 + 1), v50011))))
 else some (v50011, 0))
noncomputable def F_impl_SilencesOf (v0 : List TTurn) : Option ((List (List Int)) × Int) :=
 ((F_impl_ValidTurns v0).bind fun v1000 => (bif (!v1000) then some ([], 1)
 else loop (F_impl_SilencesOf_l0 v0) (0, 0, [])))
@[simp] def res_impl_SilencesOf (r : (List (List Int)) × Int) : RV := .tup [.one (.row true 1 (r.1.map (eL 1 vI))), .one (.val (.int .i64 r.2))]
theorem con_impl_SilencesOf {v0 : List TTurn} {r : (List (List Int)) × Int} (hF : F_impl_SilencesOf v0 = some r) : Con Try.prog 10 [.sl 3 (v0.map eTurn)] (res_impl_SilencesOf r) := by
 unfold F_impl_SilencesOf at hF
 refine con_of c10_is fun N => ?_
 refine ws 0 128 ?_
 refine qf (.sl 0 0 0) [(0, .row true 1 (([] : List Int).map vI))] (by simp) ?_
 refine qp (AI 0) rfl ?_
 refine r_nil ?_
 refine w_seq ?_
 refine ws 128 320 ?_
 refine qp (AL 3 (v0.map eTurn)) rfl ?_
 obtain ⟨v1000, e1000, hF⟩ := bind_get hF
 refine qc (AB v1000) [(0, .row true 1 (([] : List Int).map vI))] false (con_impl_ValidTurns e1000) c18_ok (by first | rfl | simp) rfl ?_
 refine qp (AB (!v1000)) rfl ?_
 refine r_nil ?_
 refine cF hF (fun hF => ?_) fun hF => ?_
 ·
  refine ws 320 448 ?_
  refine qf (.sl 320 0 0) [(320, .row true 1 (([] : List (List Int)).map (eL 1 vI))), (0, .row true 1 (([] : List Int).map vI))] (by simp) ?_
  refine qp (AI 1) rfl ?_
  refine r_nil ?_
  refine w_ret ?_
  refine thenQ_r ?_
  cases hF
  exact eR
 ·
  refine w_skip ?_
  refine thenQ_n ?_
  refine ws 320 384 ?_
  refine qf (.sl 320 0 0) [(320, .row true 1 (([] : List (List Int)).map (eL 1 vI))), (0, .row true 1 (([] : List Int).map vI))] (by simp) ?_
  refine r_nil ?_
  refine ws 384 448 ?_
  refine qp (AI 0) rfl ?_
  refine r_nil ?_
  refine w_seq ?_
  refine ws 448 640 ?_
  refine qp (AL 3 (v0.map eTurn)) rfl (qp (AI (v0.length : Int)) (ev_len_n rfl) (qp (AI 0) rfl ?_))
  refine r_nil ?_
  refine w_block ?_
  refine wr (l' := [(4, .sl 0 0 0), (5, AI 0), (11, AL 3 (v0.map eTurn)), (12, AI (v0.length : Int)), (13, AI 0)]) (L := [(0, .row true 1 (([] : List (List Int)).map (eL 1 vI)))]) [4, 5, 11, 12, 13] [(320, 0)] 1 ?_
  refine w_loopF (F_impl_SilencesOf_l0 v0) (fun s : Int × Int × (List (List Int)) => mkS [(4, .sl 0 0 s.2.2.length), (5, AI s.1), (11, AL 3 (v0.map eTurn)), (12, AI (v0.length : Int)), (13, AI s.2.1)] (fo [(0, .row true 1 (s.2.2.map (eL 1 vI)))]) 1) hF ?_
  rintro k1 ⟨v50009, v50010, v50011⟩ hF
  rw [F_impl_SilencesOf_l0] at hF
  try dsimp only
  refine ws 1 65 ?_
  refine qp (AB (decide (v50010 < (v0.length : Int)))) rfl ?_
  refine r_nil ?_
  refine w_seq ?_
  refine cF hF (fun hF => ?_) fun hF => ?_
  ·
   refine w_skip ?_
   refine thenQ_n ?_
   refine w_seq ?_
   refine w_block ?_
   refine ws 65 321 ?_
   obtain ⟨v1009, e1009, hF⟩ := bind_get hF
   refine qp (.val none (.ptr [.str v1009.1, .int .i64 v1009.2.1, .int .i64 v1009.2.2])) (ev_iad_n rfl rfl e1009 rfl) (qp (.val none (eTurn v1009)) rfl ?_)
   refine qf (.ptr 193 0 0) [(193, .box [AS [], AI 0, AI 0]), (0, .row true 1 (v50011.map (eL 1 vI)))] (by simp) ?_
   refine qf0 (.undef) [(193, .box [AS v1009.1, AI v1009.2.1, AI v1009.2.2]), (193, .box [AS [], AI 0, AI 0]), (0, .row true 1 (v50011.map (eL 1 vI)))] (by simp) ?_
   refine r_nil ?_
   refine w_seq ?_
   refine ws 321 577 ?_
   refine qp (.ptr 193 0 1) rfl (qp (AI v1009.2.1) rfl (qp (AI v50009) rfl (qp (AB (decide (v50009 < v1009.2.1))) rfl ?_)))
   refine r_nil ?_
   refine cF hF (fun hF => ?_) fun hF => ?_
   ·
    refine w_reg 577 1089 rfl rfl ?_
    refine qp (.sl 0 0 v50011.length) rfl (qp (AI v50009) rfl (qp (.ptr 193 0 1) rfl (qp (AI v1009.2.1) rfl ?_)))
    refine qf (.sl 833 0 ([v50009, v1009.2.1].length)) [(833, .row true 1 ([v50009, v1009.2.1].map vI)), (193, .box [AS v1009.1, AI v1009.2.1, AI v1009.2.2]), (193, .box [AS [], AI 0, AI 0]), (0, .row true 1 (v50011.map (eL 1 vI)))] (by simp [List.take_of_length_le]) ?_
    refine qf (.sl 897 0 ([[v50009, v1009.2.1]].length)) [(897, .row true 1 ([[v50009, v1009.2.1]].map (eL 1 vI))), (833, .dead), (833, .row true 1 ([v50009, v1009.2.1].map vI)), (193, .box [AS v1009.1, AI v1009.2.1, AI v1009.2.2]), (193, .box [AS [], AI 0, AI 0]), (0, .row true 1 (v50011.map (eL 1 vI)))] (by simp [List.take_of_length_le]) ?_
    obtain ⟨g1010, hF⟩ := need_some hF
    refine qf (.sl 961 0 ((v50011 ++ [[v50009, v1009.2.1]]).length)) [(961, .row true 1 ((v50011 ++ [[v50009, v1009.2.1]]).map (eL 1 vI))), (0, .dead), (897, .dead), (897, .row true 1 ([[v50009, v1009.2.1]].map (eL 1 vI))), (833, .dead), (833, .row true 1 ([v50009, v1009.2.1].map vI)), (193, .box [AS v1009.1, AI v1009.2.1, AI v1009.2.2]), (193, .box [AS [], AI 0, AI 0]), (0, .row true 1 (v50011.map (eL 1 vI)))] (effT_app_l rfl (by simp) rfl rfl (by simp) rfl (by decide) g1010 rfl) ?_
    refine qp (.sl 961 0 ((v50011 ++ [[v50009, v1009.2.1]]).length)) rfl ?_
    refine r_nil ?_
    refine thenQ_n ?_
    refine w_reg 1089 1409 rfl rfl ?_
    refine qp (AI v50009) rfl (qp (.agg [AS v1009.1, AI v1009.2.1, AI v1009.2.2]) rfl ?_)
    obtain ⟨v1011, e1011, hF⟩ := bind_get hF
    refine qc (AI v1011) [(961, .row true 1 ((v50011 ++ [[v50009, v1009.2.1]]).map (eL 1 vI))), (0, .dead), (897, .dead), (897, .row true 1 ([[v50009, v1009.2.1]].map (eL 1 vI))), (833, .dead), (833, .row true 1 ([v50009, v1009.2.1].map vI)), (193, .box [AS v1009.1, AI v1009.2.1, AI v1009.2.2]), (193, .box [AS [], AI 0, AI 0]), (0, .row true 1 (v50011.map (eL 1 vI)))] false (con_impl_Turn_end e1011) c23_ok (by first | rfl | simp) rfl ?_
    refine qp (AI (if v1011 > v50009 then v1011 else v50009)) rfl (qp (AI (if v1011 > v50009 then v1011 else v50009)) rfl ?_)
    refine r_nil ?_
    refine blockQ_n ?_
    refine thenQ_n ?_
    refine w_reg 1409 1537 rfl rfl ?_
    refine qp (AI (w64 (v50010 + 1))) rfl (qp (AI (w64 (v50010 + 1))) rfl ?_)
    refine r_nil ?_
    refine thenQ_n ?_
    refine ar (l' := [(4, .sl 0 0 (v50011 ++ [[v50009, v1009.2.1]]).length), (5, AI (if v1011 > v50009 then v1011 else v50009)), (11, AL 3 (v0.map eTurn)), (12, AI (v0.length : Int)), (13, AI (w64 (v50010 + 1)))]) (L := [(0, .row true 1 ((v50011 ++ [[v50009, v1009.2.1]]).map (eL 1 vI)))]) [4, 5, 11, 12, 13] [(961, 0)] 1 ⟨_, by rfl, hF⟩
   ·
    refine w_skip ?_
    refine thenQ_n ?_
    refine w_reg 577 897 rfl rfl ?_
    refine qp (AI v50009) rfl (qp (.agg [AS v1009.1, AI v1009.2.1, AI v1009.2.2]) rfl ?_)
    obtain ⟨v1012, e1012, hF⟩ := bind_get hF
    refine qc (AI v1012) [(193, .box [AS v1009.1, AI v1009.2.1, AI v1009.2.2]), (193, .box [AS [], AI 0, AI 0]), (0, .row true 1 (v50011.map (eL 1 vI)))] false (con_impl_Turn_end e1012) c23_ok (by first | rfl | simp) rfl ?_
    refine qp (AI (if v1012 > v50009 then v1012 else v50009)) rfl (qp (AI (if v1012 > v50009 then v1012 else v50009)) rfl ?_)
    refine r_nil ?_
    refine blockQ_n ?_
    refine thenQ_n ?_
    refine w_reg 897 1025 rfl rfl ?_
    refine qp (AI (w64 (v50010 + 1))) rfl (qp (AI (w64 (v50010 + 1))) rfl ?_)
    refine r_nil ?_
    refine thenQ_n ?_
    refine ar (l' := [(4, .sl 0 0 v50011.length), (5, AI (if v1012 > v50009 then v1012 else v50009)), (11, AL 3 (v0.map eTurn)), (12, AI (v0.length : Int)), (13, AI (w64 (v50010 + 1)))]) (L := [(0, .row true 1 (v50011.map (eL 1 vI)))]) [4, 5, 11, 12, 13] [(0, 0)] 1 ⟨_, by rfl, hF⟩
  ·
   refine w_exit ?_
   refine thenQ_e ?_
   refine thenQ_e ?_
   refine blockQ_e ?_
   refine thenQ_n ?_
   refine ws 65 257 ?_
   refine qp (.sl 0 0 v50011.length) rfl (qp (.sl 0 0 v50011.length) rfl (qp (AI 0) rfl ?_))
   refine r_nil ?_
   refine w_ret ?_
   cases hF
   exact eR

theorem c48_ok : okFn Try.prog 48 = true := by kernel_rfl




theorem c49_ok : okFn Try.prog 49 = true := by kernel_rfl




def c30 : MC := (.seq (.reg [rg 4 (.f (.nilrow 1))]) (.seq (.reg [rg 5 (.f (.nilrow 1))]) (.seq (.seq (.reg [mvt 8 0, rg 9 (.p true (.len (.t 8))), rg 10 (.p true (.mv (.c (.int .i64 0))))]) (.block 0 (.loop (.seq (.reg [rg 11 (.p true (.bin .lss (.t 10) (.t 9)))]) (.seq (.cond (.t 11) .skip (.exit 0)) (.seq (.block 1 (.seq (.reg [rg 12 (.p true (.iad (.t 8) (.t 10) 3)), rg 13 (.p true (.ld (.t 12) 3 true)), rg 7 (.f (.alloc [((.str []), (0, false)), ((.int .i64 0), (0, false)), ((.int .i64 0), (0, false))])), ⟨none, none, (.f (.st (.t 7) (.t 13) 3))⟩]) (.seq (.reg [rg 14 (.p false (.mv (.t 1))), rg 15 (.p false (.fad (.t 7) 1)), rg 16 (.p false (.ld (.t 15) 1 false)), rg 17 (.p false (.ld (.t 7) 3 true)), rg 18 (.call false 23 [(.t 17)]), rg 19 (.p false (.bin .sub (.t 18) (.c (.int .i64 1)))), rg 20 (.call false 21 [(.t 14), (.t 16), (.t 19)])]) (.cond (.t 20) (.reg [mvt 21 5, rg 22 (.p true (.fad (.t 7) 0)), rg 23 (.p true (.ld (.t 22) 1 false)), rg 24 (.f (.bsl 1 [(.t 23)])), rg 25 (.f (.app (.t 21) (.t 24) 1 16 true)), mvt 5 25]) .skip)))) (.reg [rg 26 (.p true (.bin .add (.t 10) (.c (.int .i64 1)))), mvt 10 26]))))))) (.seq (.reg [mvt 27 5, rg 28 (.call true 48 [(.t 27)])]) (.seq (.reg [mvt 29 5, rg 30 (.call true 49 [(.t 29)]), mvt 4 30]) .ret)))))
theorem c30_is : compFn Try.prog 30 = some (c30, [(.tmp 4)]) := by kernel_rfl
theorem c30_ok : okFn Try.prog 30 = true := by kernel_rfl

noncomputable def F_impl_playersAt_l0 (v0 : List TTurn) (v1 : Int) (k0 : Int × (List (List UInt8)) → Option (List (List UInt8))) : Int × (List (List UInt8)) → Option (List (List UInt8))
 | (v50002, v50003) => (bif (decide (v50002 < (v0.length : Int))) then ((ix v0 v50002).bind fun v1000 => ((F_impl_Turn_end v1000).bind fun v1001 => ((F_impl_within v1 v1000.2.1 (w64 (v1001 - 1))).bind fun v1002 => (bif v1002 then (need (room (v50003.length + [v1000.1].length) 16) (k0 (w64 (v50002 + 1), v50003 ++ [v1000.1])))
 else k0 (w64 (v50002 + 1), v50003)))))
 else ((F_sortS v50003).bind fun v1004 => need (v1004.length = v50003.length) (((F_compactS v1004).bind fun v1005 => some v1005))))
noncomputable def F_impl_playersAt (v0 : List TTurn) (v1 : Int) : Option (List (List UInt8)) :=
 loop (F_impl_playersAt_l0 v0 v1) (0, [])
@[simp] def res_impl_playersAt (r : List (List UInt8)) : RV := .one (.one (.row true 1 (r.map V.str)))
theorem con_impl_playersAt {v0 : List TTurn} {v1 : Int} {r : List (List UInt8)} (hF : F_impl_playersAt v0 v1 = some r) : Con Try.prog 30 [.sl 3 (v0.map eTurn), .int .i64 v1] (res_impl_playersAt r) := by
 unfold F_impl_playersAt at hF
 refine con_of c30_is fun N => ?_
 refine ws 0 64 ?_
 refine qf (.sl 0 0 0) [(0, .row true 1 (([] : List Int).map vI))] (by simp) ?_
 refine r_nil ?_
 refine ws 64 128 ?_
 refine qf (.sl 64 0 0) [(64, .row true 1 (([] : List (List UInt8)).map V.str)), (0, .row true 1 (([] : List Int).map vI))] (by simp) ?_
 refine r_nil ?_
 refine w_seq ?_
 refine ws 128 320 ?_
 refine qp (AL 3 (v0.map eTurn)) rfl (qp (AI (v0.length : Int)) (ev_len_n rfl) (qp (AI 0) rfl ?_))
 refine r_nil ?_
 refine w_block ?_
 refine wr (l' := [(1, AI v1), (5, .sl 0 0 0), (8, AL 3 (v0.map eTurn)), (9, AI (v0.length : Int)), (10, AI 0)]) (L := [(0, .row true 1 (([] : List (List UInt8)).map V.str))]) [1, 5, 8, 9, 10] [(64, 0)] 1 ?_
 refine w_loopF (F_impl_playersAt_l0 v0 v1) (fun s : Int × (List (List UInt8)) => mkS [(1, AI v1), (5, .sl 0 0 s.2.length), (8, AL 3 (v0.map eTurn)), (9, AI (v0.length : Int)), (10, AI s.1)] (fo [(0, .row true 1 (s.2.map V.str))]) 1) hF ?_
 rintro k0 ⟨v50002, v50003⟩ hF
 rw [F_impl_playersAt_l0] at hF
 try dsimp only
 refine ws 1 65 ?_
 refine qp (AB (decide (v50002 < (v0.length : Int)))) rfl ?_
 refine r_nil ?_
 refine w_seq ?_
 refine cF hF (fun hF => ?_) fun hF => ?_
 ·
  refine w_skip ?_
  refine thenQ_n ?_
  refine w_seq ?_
  refine w_block ?_
  refine ws 65 321 ?_
  obtain ⟨v1000, e1000, hF⟩ := bind_get hF
  refine qp (.val none (.ptr [.str v1000.1, .int .i64 v1000.2.1, .int .i64 v1000.2.2])) (ev_iad_n rfl rfl e1000 rfl) (qp (.val none (eTurn v1000)) rfl ?_)
  refine qf (.ptr 193 0 0) [(193, .box [AS [], AI 0, AI 0]), (0, .row true 1 (v50003.map V.str))] (by simp) ?_
  refine qf0 (.undef) [(193, .box [AS v1000.1, AI v1000.2.1, AI v1000.2.2]), (193, .box [AS [], AI 0, AI 0]), (0, .row true 1 (v50003.map V.str))] (by simp) ?_
  refine r_nil ?_
  refine ws 321 769 ?_
  refine qp (AI v1) rfl (qp (.ptr 193 0 1) rfl (qp (AI v1000.2.1) rfl (qp (.agg [AS v1000.1, AI v1000.2.1, AI v1000.2.2]) rfl ?_)))
  obtain ⟨v1001, e1001, hF⟩ := bind_get hF
  refine qc (AI v1001) [(193, .box [AS v1000.1, AI v1000.2.1, AI v1000.2.2]), (193, .box [AS [], AI 0, AI 0]), (0, .row true 1 (v50003.map V.str))] false (con_impl_Turn_end e1001) c23_ok (by first | rfl | simp) rfl ?_
  refine qp (AI (w64 (v1001 - 1))) rfl ?_
  obtain ⟨v1002, e1002, hF⟩ := bind_get hF
  refine qc (AB v1002) [(193, .box [AS v1000.1, AI v1000.2.1, AI v1000.2.2]), (193, .box [AS [], AI 0, AI 0]), (0, .row true 1 (v50003.map V.str))] false (con_impl_within e1002) c21_ok (by first | rfl | simp) rfl ?_
  refine r_nil ?_
  refine cF hF (fun hF => ?_) fun hF => ?_
  ·
   refine w_reg 769 1153 rfl rfl ?_
   refine qp (.sl 0 0 v50003.length) rfl (qp (.ptr 193 0 0) rfl (qp (AS v1000.1) rfl ?_))
   refine qf (.sl 961 0 ([v1000.1].length)) [(961, .row true 1 ([v1000.1].map V.str)), (193, .box [AS v1000.1, AI v1000.2.1, AI v1000.2.2]), (193, .box [AS [], AI 0, AI 0]), (0, .row true 1 (v50003.map V.str))] (by simp [List.take_of_length_le]) ?_
   obtain ⟨g1003, hF⟩ := need_some hF
   refine qf (.sl 1025 0 ((v50003 ++ [v1000.1]).length)) [(1025, .row true 1 ((v50003 ++ [v1000.1]).map V.str)), (0, .dead), (961, .dead), (961, .row true 1 ([v1000.1].map V.str)), (193, .box [AS v1000.1, AI v1000.2.1, AI v1000.2.2]), (193, .box [AS [], AI 0, AI 0]), (0, .row true 1 (v50003.map V.str))] (effT_app_l rfl (by simp) rfl rfl (by simp) rfl (by decide) g1003 rfl) ?_
   refine qp (.sl 1025 0 ((v50003 ++ [v1000.1]).length)) rfl ?_
   refine r_nil ?_
   refine blockQ_n ?_
   refine thenQ_n ?_
   refine w_reg 1153 1281 rfl rfl ?_
   refine qp (AI (w64 (v50002 + 1))) rfl (qp (AI (w64 (v50002 + 1))) rfl ?_)
   refine r_nil ?_
   refine thenQ_n ?_
   refine ar (l' := [(1, AI v1), (5, .sl 0 0 (v50003 ++ [v1000.1]).length), (8, AL 3 (v0.map eTurn)), (9, AI (v0.length : Int)), (10, AI (w64 (v50002 + 1)))]) (L := [(0, .row true 1 ((v50003 ++ [v1000.1]).map V.str))]) [1, 5, 8, 9, 10] [(1025, 0)] 1 ⟨_, by rfl, hF⟩
  ·
   refine w_skip ?_
   refine blockQ_n ?_
   refine thenQ_n ?_
   refine w_reg 769 897 rfl rfl ?_
   refine qp (AI (w64 (v50002 + 1))) rfl (qp (AI (w64 (v50002 + 1))) rfl ?_)
   refine r_nil ?_
   refine thenQ_n ?_
   refine ar (l' := [(1, AI v1), (5, .sl 0 0 v50003.length), (8, AL 3 (v0.map eTurn)), (9, AI (v0.length : Int)), (10, AI (w64 (v50002 + 1)))]) (L := [(0, .row true 1 (v50003.map V.str))]) [1, 5, 8, 9, 10] [(0, 0)] 1 ⟨_, by rfl, hF⟩
 ·
  refine w_exit ?_
  refine thenQ_e ?_
  refine thenQ_e ?_
  refine blockQ_e ?_
  refine thenQ_n ?_
  refine ws 65 193 ?_
  refine qp (.sl 0 0 v50003.length) rfl ?_
  obtain ⟨v1004, e1004, hF⟩ := bind_get hF
  obtain ⟨g1004, hF⟩ := need_some hF
  refine qm1 (ls := [0]) [(0, .row true 1 (v1004.map V.str)), (0, .row true 1 (v50003.map V.str))] (con_sortS_48 e1004) c48_ok (by first | rfl | simp [takeM, takeML, takeM1, g1004]) (by decide) (by simp [like2, likeL, like1, g1004]) rfl rfl (by simp [scrO_fo, newO2, newO, scrR, scrA, scrAs]) ?_
  refine r_nil ?_
  refine ws 193 385 ?_
  refine qp (.sl 0 0 v50003.length) rfl ?_
  obtain ⟨v1005, e1005, hF⟩ := bind_get hF
  refine qX (.sl 257 0 v1005.length) [(257, .row true 1 (v1005.map V.str)), (0, .dead), (0, .row true 1 (v1004.map V.str)), (0, .row true 1 (v50003.map V.str))] false rfl rfl (whole_row (by simp [g1004])) (con_compactS_49 e1005) c49_ok (by first | rfl | simp) (by simp [RV.r]) ?_
  refine qp (.sl 257 0 v1005.length) rfl ?_
  refine r_nil ?_
  refine w_ret ?_
  cases hF
  exact endQ_r rfl (.inl ⟨_, _, by first | rfl | (simp [List.take_of_length_le]; first | exact ⟨rfl, rfl⟩ | rfl), by simp, by first | rfl | simp [res_impl_playersAt, List.take_of_length_le, g1004]⟩)

def c11 : MC := (.seq (.reg [rg 4 (.f (.nilrow 1)), rg 5 (.p true (.mv (.c (.int .i64 0))))]) (.seq (.block 0 (.seq (.reg [mvt 7 0, rg 8 (.call true 18 [(.t 7)]), rg 9 (.p true (.not (.t 8))), mvt 6 9]) (.cond (.t 6) (.seq (.reg [rg 4 (.f (.nilrow 1)), rg 5 (.p true (.mv (.c (.int .i64 1))))]) .ret) (.seq (.reg [mvt 11 1, rg 12 (.call true 21 [(.t 11), (.c (.int .i64 0)), (.c (.int .i64 20000))]), rg 13 (.p true (.not (.t 12))), mvt 10 13]) (.cond (.t 10) (.seq (.reg [rg 4 (.f (.nilrow 1)), rg 5 (.p true (.mv (.c (.int .i64 2))))]) .ret) .skip))))) (.seq (.reg [mvt 14 0, mvt 15 1, rg 16 (.call true 30 [(.t 14), (.t 15)]), mvt 4 16, rg 5 (.p true (.mv (.c (.int .i64 0))))]) .ret)))
theorem c11_is : compFn Try.prog 11 = some (c11, [(.tmp 4), (.tmp 5)]) := by kernel_rfl
theorem c11_ok : okFn Try.prog 11 = true := by kernel_rfl

noncomputable def F_impl_PlayersAt (v0 : List TTurn) (v1 : Int) : Option ((List (List UInt8)) × Int) :=
 ((F_impl_ValidTurns v0).bind fun v1000 => (bif (!v1000) then some ([], 1)
 else ((F_impl_within v1 0 20000).bind fun v1001 => (bif (!v1001) then some ([], 2)
 else ((F_impl_playersAt v0 v1).bind fun v1002 => some (v1002, 0))))))
@[simp] def res_impl_PlayersAt (r : (List (List UInt8)) × Int) : RV := .tup [.one (.row true 1 (r.1.map V.str)), .one (.val (.int .i64 r.2))]
theorem con_impl_PlayersAt {v0 : List TTurn} {v1 : Int} {r : (List (List UInt8)) × Int} (hF : F_impl_PlayersAt v0 v1 = some r) : Con Try.prog 11 [.sl 3 (v0.map eTurn), .int .i64 v1] (res_impl_PlayersAt r) := by
 unfold F_impl_PlayersAt at hF
 refine con_of c11_is fun N => ?_
 refine ws 0 128 ?_
 refine qf (.sl 0 0 0) [(0, .row true 1 (([] : List Int).map vI))] (by simp) ?_
 refine qp (AI 0) rfl ?_
 refine r_nil ?_
 refine w_seq ?_
 refine w_block ?_
 refine ws 128 384 ?_
 refine qp (AL 3 (v0.map eTurn)) rfl ?_
 obtain ⟨v1000, e1000, hF⟩ := bind_get hF
 refine qc (AB v1000) [(0, .row true 1 (([] : List Int).map vI))] false (con_impl_ValidTurns e1000) c18_ok (by first | rfl | simp) rfl ?_
 refine qp (AB (!v1000)) rfl (qp (AB (!v1000)) rfl ?_)
 refine r_nil ?_
 refine cF hF (fun hF => ?_) fun hF => ?_
 ·
  refine ws 384 512 ?_
  refine qf (.sl 384 0 0) [(384, .row true 1 (([] : List (List UInt8)).map V.str)), (0, .row true 1 (([] : List Int).map vI))] (by simp) ?_
  refine qp (AI 1) rfl ?_
  refine r_nil ?_
  refine w_ret ?_
  refine blockQ_r ?_
  refine thenQ_r ?_
  cases hF
  exact eR
 ·
  refine ws 384 640 ?_
  refine qp (AI v1) rfl ?_
  obtain ⟨v1001, e1001, hF⟩ := bind_get hF
  refine qc (AB v1001) [(0, .row true 1 (([] : List Int).map vI))] false (con_impl_within e1001) c21_ok (by first | rfl | simp) rfl ?_
  refine qp (AB (!v1001)) rfl (qp (AB (!v1001)) rfl ?_)
  refine r_nil ?_
  refine cF hF (fun hF => ?_) fun hF => ?_
  ·
   refine ws 640 768 ?_
   refine qf (.sl 640 0 0) [(640, .row true 1 (([] : List (List UInt8)).map V.str)), (0, .row true 1 (([] : List Int).map vI))] (by simp) ?_
   refine qp (AI 2) rfl ?_
   refine r_nil ?_
   refine w_ret ?_
   refine blockQ_r ?_
   refine thenQ_r ?_
   cases hF
   exact eR
  ·
   refine w_skip ?_
   refine blockQ_n ?_
   refine thenQ_n ?_
   refine ws 640 960 ?_
   refine qp (AL 3 (v0.map eTurn)) rfl (qp (AI v1) rfl ?_)
   obtain ⟨v1002, e1002, hF⟩ := bind_get hF
   refine qc (.sl 768 0 v1002.length) [(768, .row true 1 (v1002.map V.str)), (0, .row true 1 (([] : List Int).map vI))] false (con_impl_playersAt e1002) c30_ok (by first | rfl | simp) (by simp [res_impl_playersAt]) ?_
   refine qp (.sl 768 0 v1002.length) rfl (qp (AI 0) rfl ?_)
   refine r_nil ?_
   refine w_ret ?_
   cases hF
   exact eR

def c32 : MC := (.seq (.reg [rg 2 (.f (.box (.t 0))), rg 3 (.p true (.mv (.c (.bool false))))]) (.seq (.reg [rg 4 (.p true (.fad (.t 2) 0)), rg 5 (.p true (.ld (.t 4) 1 false)), rg 6 (.p true (.ld (.t 1) 1 false)), rg 7 (.p true (.bin .eql (.t 5) (.t 6))), mvt 3 7]) .ret))
theorem c32_is : compFn Try.prog 32 = some (c32, [(.tmp 3)]) := by kernel_rfl
theorem c32_ok : okFn Try.prog 32 = true := by kernel_rfl

noncomputable def F_impl_SoloTime_1 (v0 : TTurn) (v1 : List UInt8) : Option (Bool) :=
 some (decide (v0.1 = v1))
@[simp] def res_impl_SoloTime_1 (r : Bool) : RV := .one (.one (.val (.bool r)))
theorem con_impl_SoloTime_1 {v0 : TTurn} {v1 : List UInt8} {r : Bool} (hF : F_impl_SoloTime_1 v0 v1 = some r) : Con Try.prog 32 [eTurn v0, .ptr [.str v1]] (res_impl_SoloTime_1 r) := by
 unfold F_impl_SoloTime_1 at hF
 refine con_of c32_is fun N => ?_
 refine ws 0 128 ?_
 refine qf (.ptr 0 0 0) [(0, .box [AS v0.1, AI v0.2.1, AI v0.2.2])] (by simp) ?_
 refine qp (AB false) rfl ?_
 refine r_nil ?_
 refine ws 128 448 ?_
 refine qp (.ptr 0 0 0) rfl (qp (AS v0.1) rfl (qp (AS v1) rfl (qp (AB (decide (v0.1 = v1))) rfl (qp (AB (decide (v0.1 = v1))) rfl ?_))))
 refine r_nil ?_
 refine w_ret ?_
 cases hF
 exact eR

noncomputable def F_slices_IndexFunc_STurn_Turn_1_l0 (v0 : List TTurn) (v1 : List UInt8) (k0 : Int → Option (Int)) : Int → Option (Int)
 | v50001 => (bif (decide (v50001 < (v0.length : Int))) then ((ix v0 v50001).bind fun v1000 => ((F_impl_SoloTime_1 v1000 v1).bind fun v1001 => (bif v1001 then some v50001
 else k0 (w64 (v50001 + 1)))))
 else some (-1))
noncomputable def F_slices_IndexFunc_STurn_Turn_1 (v0 : List TTurn) (v1 : List UInt8) : Option (Int) :=
 loop (F_slices_IndexFunc_STurn_Turn_1_l0 v0 v1) 0
@[simp] def res_slices_IndexFunc_STurn_Turn_1 (r : Int) : RV := .one (.one (.val (.int .i64 r)))
theorem con_slices_IndexFunc_STurn_Turn_1 {v0 : List TTurn} {v1 : List UInt8} {r : Int} (hF : F_slices_IndexFunc_STurn_Turn_1 v0 v1 = some r) : Con Try.prog 50 [.sl 3 (v0.map eTurn), .fn 32 [.ptr [.str v1]]] (res_slices_IndexFunc_STurn_Turn_1 r) := by
 unfold F_slices_IndexFunc_STurn_Turn_1 at hF
 refine con_of c50_is fun N => ?_
 refine ws 0 64 ?_
 refine qp (AI 0) rfl ?_
 refine r_nil ?_
 refine w_seq ?_
 refine ws 64 256 ?_
 refine qp (AL 3 (v0.map eTurn)) rfl (qp (AI (v0.length : Int)) (ev_len_n rfl) (qp (AI 0) rfl ?_))
 refine r_nil ?_
 refine w_block ?_
 refine wr (l' := [(0, AL 3 (v0.map eTurn)), (1, .val none (.fn 32 [.ptr [.str v1]])), (7, AI (v0.length : Int)), (8, AI 0)]) (L := []) [0, 1, 7, 8] [] 1 ?_
 refine w_loopF (F_slices_IndexFunc_STurn_Turn_1_l0 v0 v1) (fun s : Int => mkS [(0, AL 3 (v0.map eTurn)), (1, .val none (.fn 32 [.ptr [.str v1]])), (7, AI (v0.length : Int)), (8, AI s)] (fo []) 1) hF ?_
 rintro k0 v50001 hF
 rw [F_slices_IndexFunc_STurn_Turn_1_l0] at hF
 try dsimp only
 refine ws 1 65 ?_
 refine qp (AB (decide (v50001 < (v0.length : Int)))) rfl ?_
 refine r_nil ?_
 refine w_seq ?_
 refine cF hF (fun hF => ?_) fun hF => ?_
 ·
  refine w_skip ?_
  refine thenQ_n ?_
  refine w_seq ?_
  refine w_block ?_
  refine ws 65 193 ?_
  refine qp (AI v50001) rfl (qp (AI v50001) rfl ?_)
  refine r_nil ?_
  refine ws 193 577 ?_
  refine qp (.val none (.fn 32 [.ptr [.str v1]])) rfl (qp (AL 3 (v0.map eTurn)) rfl (qp (AI v50001) rfl ?_))
  obtain ⟨v1000, e1000, hF⟩ := bind_get hF
  refine qp (.val none (.ptr [.str v1000.1, .int .i64 v1000.2.1, .int .i64 v1000.2.2])) (ev_iad_n rfl rfl e1000 rfl) (qp (.val none (eTurn v1000)) rfl ?_)
  obtain ⟨v1001, e1001, hF⟩ := bind_get hF
  refine qcv (AB v1001) [] false rfl (con_impl_SoloTime_1 e1001) c32_ok (by first | rfl | simp) rfl ?_
  refine r_nil ?_
  refine cF hF (fun hF => ?_) fun hF => ?_
  ·
   refine ws 577 705 ?_
   refine qp (AI v50001) rfl (qp (AI v50001) rfl ?_)
   refine r_nil ?_
   refine w_ret ?_
   refine blockQ_r ?_
   refine thenQ_r ?_
   refine thenQ_r ?_
   refine blockQ_r ?_
   refine thenQ_r ?_
   cases hF
   exact eR
  ·
   refine w_skip ?_
   refine blockQ_n ?_
   refine thenQ_n ?_
   refine w_reg 577 705 rfl rfl ?_
   refine qp (AI (w64 (v50001 + 1))) rfl (qp (AI (w64 (v50001 + 1))) rfl ?_)
   refine r_nil ?_
   refine thenQ_n ?_
   refine ar (l' := [(0, AL 3 (v0.map eTurn)), (1, .val none (.fn 32 [.ptr [.str v1]])), (7, AI (v0.length : Int)), (8, AI (w64 (v50001 + 1)))]) (L := []) [0, 1, 7, 8] [] 1 ⟨_, by rfl, hF⟩
 ·
  refine w_exit ?_
  refine thenQ_e ?_
  refine thenQ_e ?_
  refine blockQ_e ?_
  refine thenQ_n ?_
  refine ws 65 129 ?_
  refine qp (AI (-1)) rfl ?_
  refine r_nil ?_
  refine w_ret ?_
  cases hF
  exact eR

noncomputable def F_slices_ContainsFunc_STurn_Turn_1 (v0 : List TTurn) (v1 : List UInt8) : Option (Bool) :=
 ((F_slices_IndexFunc_STurn_Turn_1 v0 v1).bind fun v1000 => some (decide ((0 : Int) ≤ v1000)))
@[simp] def res_slices_ContainsFunc_STurn_Turn_1 (r : Bool) : RV := .one (.one (.val (.bool r)))
theorem con_slices_ContainsFunc_STurn_Turn_1 {v0 : List TTurn} {v1 : List UInt8} {r : Bool} (hF : F_slices_ContainsFunc_STurn_Turn_1 v0 v1 = some r) : Con Try.prog 31 [.sl 3 (v0.map eTurn), .fn 32 [.ptr [.str v1]]] (res_slices_ContainsFunc_STurn_Turn_1 r) := by
 unfold F_slices_ContainsFunc_STurn_Turn_1 at hF
 refine con_of c31_is fun N => ?_
 refine ws 0 64 ?_
 refine qp (AB false) rfl ?_
 refine r_nil ?_
 refine ws 64 384 ?_
 refine qp (AL 3 (v0.map eTurn)) rfl (qp (.val none (.fn 32 [.ptr [.str v1]])) rfl ?_)
 obtain ⟨v1000, e1000, hF⟩ := bind_get hF
 refine qc (AI v1000) [] false (con_slices_IndexFunc_STurn_Turn_1 e1000) c50_ok (by first | rfl | simp) rfl ?_
 refine qp (AB (decide ((0 : Int) ≤ v1000))) rfl (qp (AB (decide ((0 : Int) ≤ v1000))) rfl ?_)
 refine r_nil ?_
 refine w_ret ?_
 cases hF
 exact eR

def c33 : MC := (.seq (.reg [rg 4 (.p true (.mv (.c (.bool false))))]) (.seq (.seq (.reg [mvt 6 0, rg 7 (.p true (.len (.t 6))), mvt 8 1, rg 9 (.p true (.len (.t 8))), rg 10 (.p true (.bin .neq (.t 7) (.t 9)))]) (.cond (.t 10) (.seq (.reg [rg 4 (.p true (.mv (.c (.bool false))))]) .ret) .skip)) (.seq (.seq (.reg [mvt 11 0, rg 12 (.p true (.len (.t 11))), rg 13 (.p true (.mv (.c (.int .i64 0))))]) (.block 0 (.loop (.seq (.reg [rg 14 (.p true (.bin .lss (.t 13) (.t 12)))]) (.seq (.cond (.t 14) .skip (.exit 0)) (.seq (.block 1 (.seq (.reg [mvt 15 13, mvt 5 15]) (.seq (.reg [rg 16 (.p false (.mv (.t 0))), rg 17 (.p false (.mv (.t 5))), rg 18 (.p false (.iad (.t 16) (.t 17) 1)), rg 19 (.p false (.ld (.t 18) 1 false)), rg 20 (.p false (.mv (.t 1))), rg 21 (.p false (.mv (.t 5))), rg 22 (.p false (.iad (.t 20) (.t 21) 1)), rg 23 (.p false (.ld (.t 22) 1 false)), rg 24 (.p false (.bin .neq (.t 19) (.t 23)))]) (.cond (.t 24) (.seq (.reg [rg 4 (.p true (.mv (.c (.bool false))))]) .ret) .skip)))) (.reg [rg 25 (.p true (.bin .add (.t 13) (.c (.int .i64 1)))), mvt 13 25]))))))) (.seq (.reg [rg 4 (.p true (.mv (.c (.bool true))))]) .ret))))
theorem c33_is : compFn Try.prog 33 = some (c33, [(.tmp 4)]) := by kernel_rfl
theorem c33_ok : okFn Try.prog 33 = true := by kernel_rfl

noncomputable def F_slices_Equal_Sstring_string_l0 (v0 : List (List UInt8)) (v1 : List (List UInt8)) (k0 : Int → Option (Bool)) : Int → Option (Bool)
 | v50001 => (bif (decide (v50001 < (v0.length : Int))) then ((ix v0 v50001).bind fun v1000 => ((ix v1 v50001).bind fun v1001 => (bif (decide (v1000 ≠ v1001)) then some false
 else k0 (w64 (v50001 + 1)))))
 else some true)
noncomputable def F_slices_Equal_Sstring_string (v0 : List (List UInt8)) (v1 : List (List UInt8)) : Option (Bool) :=
 (bif (decide ((v0.length : Int) ≠ (v1.length : Int))) then some false
 else loop (F_slices_Equal_Sstring_string_l0 v0 v1) 0)
@[simp] def res_slices_Equal_Sstring_string (r : Bool) : RV := .one (.one (.val (.bool r)))
theorem con_slices_Equal_Sstring_string {v0 : List (List UInt8)} {v1 : List (List UInt8)} {r : Bool} (hF : F_slices_Equal_Sstring_string v0 v1 = some r) : Con Try.prog 33 [.sl 1 (v0.map V.str), .sl 1 (v1.map V.str)] (res_slices_Equal_Sstring_string r) := by
 unfold F_slices_Equal_Sstring_string at hF
 refine con_of c33_is fun N => ?_
 refine ws 0 64 ?_
 refine qp (AB false) rfl ?_
 refine r_nil ?_
 refine w_seq ?_
 refine ws 64 384 ?_
 refine qp (AL 1 (v0.map V.str)) rfl (qp (AI (v0.length : Int)) (ev_len_n rfl) (qp (AL 1 (v1.map V.str)) rfl (qp (AI (v1.length : Int)) (ev_len_n rfl) (qp (AB (decide ((v0.length : Int) ≠ (v1.length : Int)))) rfl ?_))))
 refine r_nil ?_
 refine cF hF (fun hF => ?_) fun hF => ?_
 ·
  refine ws 384 448 ?_
  refine qp (AB false) rfl ?_
  refine r_nil ?_
  refine w_ret ?_
  refine thenQ_r ?_
  cases hF
  exact eR
 ·
  refine w_skip ?_
  refine thenQ_n ?_
  refine w_seq ?_
  refine ws 384 576 ?_
  refine qp (AL 1 (v0.map V.str)) rfl (qp (AI (v0.length : Int)) (ev_len_n rfl) (qp (AI 0) rfl ?_))
  refine r_nil ?_
  refine w_block ?_
  refine wr (l' := [(0, AL 1 (v0.map V.str)), (1, AL 1 (v1.map V.str)), (12, AI (v0.length : Int)), (13, AI 0)]) (L := []) [0, 1, 12, 13] [] 1 ?_
  refine w_loopF (F_slices_Equal_Sstring_string_l0 v0 v1) (fun s : Int => mkS [(0, AL 1 (v0.map V.str)), (1, AL 1 (v1.map V.str)), (12, AI (v0.length : Int)), (13, AI s)] (fo []) 1) hF ?_
  rintro k0 v50001 hF
  rw [F_slices_Equal_Sstring_string_l0] at hF
  try dsimp only
  refine ws 1 65 ?_
  refine qp (AB (decide (v50001 < (v0.length : Int)))) rfl ?_
  refine r_nil ?_
  refine w_seq ?_
  refine cF hF (fun hF => ?_) fun hF => ?_
  ·
   refine w_skip ?_
   refine thenQ_n ?_
   refine w_seq ?_
   refine w_block ?_
   refine ws 65 193 ?_
   refine qp (AI v50001) rfl (qp (AI v50001) rfl ?_)
   refine r_nil ?_
   refine ws 193 769 ?_
   refine qp (AL 1 (v0.map V.str)) rfl (qp (AI v50001) rfl ?_)
   obtain ⟨v1000, e1000, hF⟩ := bind_get hF
   refine qp (.val none (.ptr [.str v1000])) (ev_iad_n rfl rfl e1000 rfl) (qp (AS v1000) rfl (qp (AL 1 (v1.map V.str)) rfl (qp (AI v50001) rfl ?_)))
   obtain ⟨v1001, e1001, hF⟩ := bind_get hF
   refine qp (.val none (.ptr [.str v1001])) (ev_iad_n rfl rfl e1001 rfl) (qp (AS v1001) rfl (qp (AB (decide (v1000 ≠ v1001))) rfl ?_))
   refine r_nil ?_
   refine cF hF (fun hF => ?_) fun hF => ?_
   ·
    refine ws 769 833 ?_
    refine qp (AB false) rfl ?_
    refine r_nil ?_
    refine w_ret ?_
    refine blockQ_r ?_
    refine thenQ_r ?_
    refine thenQ_r ?_
    refine blockQ_r ?_
    refine thenQ_r ?_
    cases hF
    exact eR
   ·
    refine w_skip ?_
    refine blockQ_n ?_
    refine thenQ_n ?_
    refine w_reg 769 897 rfl rfl ?_
    refine qp (AI (w64 (v50001 + 1))) rfl (qp (AI (w64 (v50001 + 1))) rfl ?_)
    refine r_nil ?_
    refine thenQ_n ?_
    refine ar (l' := [(0, AL 1 (v0.map V.str)), (1, AL 1 (v1.map V.str)), (12, AI (v0.length : Int)), (13, AI (w64 (v50001 + 1)))]) (L := []) [0, 1, 12, 13] [] 1 ⟨_, by rfl, hF⟩
  ·
   refine w_exit ?_
   refine thenQ_e ?_
   refine thenQ_e ?_
   refine blockQ_e ?_
   refine thenQ_n ?_
   refine ws 65 129 ?_
   refine qp (AB true) rfl ?_
   refine r_nil ?_
   refine w_ret ?_
   cases hF
   exact eR

def c12 : MC := (.seq (.reg [rg 3 (.f (.box (.t 1))), rg 4 (.p true (.mv (.c (.int .i64 0)))), rg 5 (.p true (.mv (.c (.int .i64 0))))]) (.seq (.block 0 (.seq (.reg [mvt 9 0, rg 10 (.call true 18 [(.t 9)]), rg 11 (.p true (.not (.t 10))), mvt 8 11]) (.cond (.t 8) (.seq (.reg [rg 4 (.p true (.mv (.c (.int .i64 0)))), rg 5 (.p true (.mv (.c (.int .i64 1))))]) .ret) (.seq (.reg [mvt 13 0, rg 14 (.p true (.mkf 32 [(.t 3)])), rg 15 (.call true 31 [(.t 13), (.t 14)]), rg 16 (.p true (.not (.t 15))), mvt 12 16]) (.cond (.t 12) (.seq (.reg [rg 4 (.p true (.mv (.c (.int .i64 0)))), rg 5 (.p true (.mv (.c (.int .i64 3))))]) .ret) .skip))))) (.seq (.reg [rg 6 (.p true (.mv (.c (.int .i64 0))))]) (.seq (.seq (.reg [rg 17 (.p true (.mv (.c (.int .i64 0))))]) (.block 1 (.loop (.seq (.reg [rg 18 (.p true (.bin .lss (.t 17) (.c (.int .i64 20000))))]) (.seq (.cond (.t 18) .skip (.exit 1)) (.seq (.block 2 (.seq (.reg [mvt 19 17, mvt 7 19]) (.seq (.reg [rg 20 (.p false (.mv (.t 0))), rg 21 (.p false (.mv (.t 7))), rg 22 (.call false 30 [(.t 20), (.t 21)]), rg 23 (.p false (.ld (.t 3) 1 false)), rg 24 (.f (.bslp 1 [(.t 23)])), rg 25 (.call true 33 [(.t 22), (.t 24)])]) (.cond (.t 25) (.reg [mvt 26 6, rg 27 (.p true (.bin .add (.t 26) (.c (.int .i64 1)))), mvt 6 27]) .skip)))) (.reg [rg 28 (.p true (.bin .add (.t 17) (.c (.int .i64 1)))), mvt 17 28]))))))) (.seq (.reg [mvt 29 6, mvt 4 29, rg 5 (.p true (.mv (.c (.int .i64 0))))]) .ret)))))
theorem c12_is : compFn Try.prog 12 = some (c12, [(.tmp 4), (.tmp 5)]) := by kernel_rfl
theorem c12_ok : okFn Try.prog 12 = true := by kernel_rfl

noncomputable def F_impl_SoloTime_l0 (v0 : List TTurn) (v1 : List UInt8) (k1 : Int × Int → Option (Int × Int)) : Int × Int → Option (Int × Int)
 | (v50006, v50007) => (bif (decide (v50007 < (20000 : Int))) then ((F_impl_playersAt v0 v50007).bind fun v1006 => ((F_slices_Equal_Sstring_string v1006 [v1]).bind fun v1007 => (bif v1007 then k1 (w64 (v50006 + 1), w64 (v50007 + 1))
 else k1 (v50006, w64 (v50007 + 1)))))
 else some (v50006, 0))
noncomputable def F_impl_SoloTime (v0 : List TTurn) (v1 : List UInt8) : Option (Int × Int) :=
 ((F_impl_ValidTurns v0).bind fun v1000 => (bif (!v1000) then some (0, 1)
 else ((F_slices_ContainsFunc_STurn_Turn_1 v0 v1).bind fun v1001 => (bif (!v1001) then some (0, 3)
 else loop (F_impl_SoloTime_l0 v0 v1) (0, 0)))))
@[simp] def res_impl_SoloTime (r : Int × Int) : RV := .tup [.one (.val (.int .i64 r.1)), .one (.val (.int .i64 r.2))]
theorem con_impl_SoloTime {v0 : List TTurn} {v1 : List UInt8} {r : Int × Int} (hF : F_impl_SoloTime v0 v1 = some r) : Con Try.prog 12 [.sl 3 (v0.map eTurn), .str v1] (res_impl_SoloTime r) := by
 unfold F_impl_SoloTime at hF
 refine con_of c12_is fun N => ?_
 refine ws 0 192 ?_
 refine qf (.ptr 0 0 0) [(0, .box [AS v1])] (by simp) ?_
 refine qp (AI 0) rfl (qp (AI 0) rfl ?_)
 refine r_nil ?_
 refine w_seq ?_
 refine w_block ?_
 refine ws 192 448 ?_
 refine qp (AL 3 (v0.map eTurn)) rfl ?_
 obtain ⟨v1000, e1000, hF⟩ := bind_get hF
 refine qc (AB v1000) [(0, .box [AS v1])] false (con_impl_ValidTurns e1000) c18_ok (by first | rfl | simp) rfl ?_
 refine qp (AB (!v1000)) rfl (qp (AB (!v1000)) rfl ?_)
 refine r_nil ?_
 refine cF hF (fun hF => ?_) fun hF => ?_
 ·
  refine ws 448 576 ?_
  refine qp (AI 0) rfl (qp (AI 1) rfl ?_)
  refine r_nil ?_
  refine w_ret ?_
  refine blockQ_r ?_
  refine thenQ_r ?_
  cases hF
  exact eR
 ·
  refine ws 448 768 ?_
  refine qp (AL 3 (v0.map eTurn)) rfl (qp (.fn 32 [.ptr 0 0 0]) rfl ?_)
  obtain ⟨v1001, e1001, hF⟩ := bind_get hF
  refine qc (AB v1001) [(0, .box [AS v1])] true (con_slices_ContainsFunc_STurn_Turn_1 e1001) c31_ok (by simp [List.take_of_length_le]) rfl ?_
  refine qp (AB (!v1001)) rfl (qp (AB (!v1001)) rfl ?_)
  refine r_nil ?_
  refine cF hF (fun hF => ?_) fun hF => ?_
  ·
   refine ws 768 896 ?_
   refine qp (AI 0) rfl (qp (AI 3) rfl ?_)
   refine r_nil ?_
   refine w_ret ?_
   refine blockQ_r ?_
   refine thenQ_r ?_
   cases hF
   exact eR
  ·
   refine w_skip ?_
   refine blockQ_n ?_
   refine thenQ_n ?_
   refine ws 768 832 ?_
   refine qp (AI 0) rfl ?_
   refine r_nil ?_
   refine w_seq ?_
   refine ws 832 896 ?_
   refine qp (AI 0) rfl ?_
   refine r_nil ?_
   refine w_block ?_
   refine wr (l' := [(0, AL 3 (v0.map eTurn)), (3, .ptr 0 0 0), (6, AI 0), (17, AI 0)]) (L := [(0, .box [AS v1])]) [0, 3, 6, 17] [(0, 0)] 1 ?_
   refine w_loopF (F_impl_SoloTime_l0 v0 v1) (fun s : Int × Int => mkS [(0, AL 3 (v0.map eTurn)), (3, .ptr 0 0 0), (6, AI s.1), (17, AI s.2)] (fo [(0, .box [AS v1])]) 1) hF ?_
   rintro k1 ⟨v50006, v50007⟩ hF
   rw [F_impl_SoloTime_l0] at hF
   try dsimp only
   refine ws 1 65 ?_
   refine qp (AB (decide (v50007 < (20000 : Int)))) rfl ?_
   refine r_nil ?_
   refine w_seq ?_
   refine cF hF (fun hF => ?_) fun hF => ?_
   ·
    refine w_skip ?_
    refine thenQ_n ?_
    refine w_seq ?_
    refine w_block ?_
    refine ws 65 193 ?_
    refine qp (AI v50007) rfl (qp (AI v50007) rfl ?_)
    refine r_nil ?_
    refine ws 193 577 ?_
    refine qp (AL 3 (v0.map eTurn)) rfl (qp (AI v50007) rfl ?_)
    obtain ⟨v1006, e1006, hF⟩ := bind_get hF
    refine qc (.sl 321 0 v1006.length) [(321, .row true 1 (v1006.map V.str)), (0, .box [AS v1])] false (con_impl_playersAt e1006) c30_ok (by first | rfl | simp) (by simp [res_impl_playersAt]) ?_
    refine qp (AS v1) rfl ?_
    refine qf (.sl 449 0 ([v1].length)) [(449, .row true 1 ([v1].map V.str)), (321, .row true 1 (v1006.map V.str)), (0, .box [AS v1])] (by simp [List.take_of_length_le]) ?_
    obtain ⟨v1007, e1007, hF⟩ := bind_get hF
    refine qc (AB v1007) [(449, .row true 1 ([v1].map V.str)), (321, .row true 1 (v1006.map V.str)), (0, .box [AS v1])] true (con_slices_Equal_Sstring_string e1007) c33_ok (by simp [List.take_of_length_le]) rfl ?_
    refine r_nil ?_
    refine cF hF (fun hF => ?_) fun hF => ?_
    ·
     refine w_reg 577 769 rfl rfl ?_
     refine qp (AI v50006) rfl (qp (AI (w64 (v50006 + 1))) rfl (qp (AI (w64 (v50006 + 1))) rfl ?_))
     refine r_nil ?_
     refine blockQ_n ?_
     refine thenQ_n ?_
     refine w_reg 769 897 rfl rfl ?_
     refine qp (AI (w64 (v50007 + 1))) rfl (qp (AI (w64 (v50007 + 1))) rfl ?_)
     refine r_nil ?_
     refine thenQ_n ?_
     refine ar (l' := [(0, AL 3 (v0.map eTurn)), (3, .ptr 0 0 0), (6, AI (w64 (v50006 + 1))), (17, AI (w64 (v50007 + 1)))]) (L := [(0, .box [AS v1])]) [0, 3, 6, 17] [(0, 0)] 1 ⟨_, by rfl, hF⟩
    ·
     refine w_skip ?_
     refine blockQ_n ?_
     refine thenQ_n ?_
     refine w_reg 577 705 rfl rfl ?_
     refine qp (AI (w64 (v50007 + 1))) rfl (qp (AI (w64 (v50007 + 1))) rfl ?_)
     refine r_nil ?_
     refine thenQ_n ?_
     refine ar (l' := [(0, AL 3 (v0.map eTurn)), (3, .ptr 0 0 0), (6, AI v50006), (17, AI (w64 (v50007 + 1)))]) (L := [(0, .box [AS v1])]) [0, 3, 6, 17] [(0, 0)] 1 ⟨_, by rfl, hF⟩
   ·
    refine w_exit ?_
    refine thenQ_e ?_
    refine thenQ_e ?_
    refine blockQ_e ?_
    refine thenQ_n ?_
    refine ws 65 257 ?_
    refine qp (AI v50006) rfl (qp (AI v50006) rfl (qp (AI 0) rfl ?_))
    refine r_nil ?_
    refine w_ret ?_
    cases hF
    exact eR

def c13 : MC := (.seq (.reg [rg 2 (.p true (.mv (.c (.int .i64 0)))), rg 3 (.p true (.mv (.c (.int .i64 0)))), rg 4 (.p true (.mv (.c (.int .i64 0))))]) (.seq (.block 0 (.seq (.reg [mvt 11 0, rg 12 (.call true 18 [(.t 11)]), rg 13 (.p true (.not (.t 12))), mvt 10 13]) (.cond (.t 10) (.seq (.reg [rg 2 (.p true (.mv (.c (.int .i64 0)))), rg 3 (.p true (.mv (.c (.int .i64 0)))), rg 4 (.p true (.mv (.c (.int .i64 1))))]) .ret) (.seq (.reg [mvt 15 0, rg 16 (.p true (.len (.t 15))), rg 17 (.p true (.bin .eql (.t 16) (.c (.int .i64 0)))), mvt 14 17]) (.cond (.t 14) (.seq (.reg [rg 2 (.p true (.mv (.c (.int .i64 0)))), rg 3 (.p true (.mv (.c (.int .i64 0)))), rg 4 (.p true (.mv (.c (.int .i64 3))))]) .ret) .skip))))) (.seq (.reg [rg 5 (.p true (.mv (.c (.int .i64 0)))), rg 6 (.p true (.mv (.c (.int .i64 0))))]) (.seq (.seq (.reg [mvt 18 0, rg 19 (.p true (.len (.t 18))), rg 20 (.p true (.mv (.c (.int .i64 0))))]) (.block 1 (.loop (.seq (.reg [rg 21 (.p true (.bin .lss (.t 20) (.t 19)))]) (.seq (.cond (.t 21) .skip (.exit 1)) (.seq (.block 2 (.seq (.reg [rg 22 (.p true (.iad (.t 18) (.t 20) 3)), rg 23 (.p true (.ld (.t 22) 3 true)), rg 8 (.f (.alloc [((.str []), (0, false)), ((.int .i64 0), (0, false)), ((.int .i64 0), (0, false))])), ⟨none, none, (.f (.st (.t 8) (.t 23) 3))⟩]) (.seq (.reg [mvt 24 0, rg 25 (.p true (.fad (.t 8) 1)), rg 26 (.p true (.ld (.t 25) 1 false)), rg 27 (.call true 30 [(.t 24), (.t 26)]), rg 28 (.p true (.len (.t 27))), mvt 9 28]) (.seq (.reg [mvt 29 9, mvt 30 6, rg 31 (.p true (.bin .gtr (.t 29) (.t 30)))]) (.cond (.t 31) (.reg [rg 32 (.p true (.fad (.t 8) 1)), rg 33 (.p true (.ld (.t 32) 1 false)), mvt 34 9, mvt 5 33, mvt 6 34]) .skip))))) (.reg [rg 35 (.p true (.bin .add (.t 20) (.c (.int .i64 1)))), mvt 20 35]))))))) (.seq (.reg [mvt 36 5, mvt 37 6, mvt 2 36, mvt 3 37, rg 4 (.p true (.mv (.c (.int .i64 0))))]) .ret)))))
theorem c13_is : compFn Try.prog 13 = some (c13, [(.tmp 2), (.tmp 3), (.tmp 4)]) := by kernel_rfl
theorem c13_ok : okFn Try.prog 13 = true := by kernel_rfl

noncomputable def F_impl_FullestTime_l0 (v0 : List TTurn) (k1 : Int × Int × Int → Option (Int × Int × Int)) : Int × Int × Int → Option (Int × Int × Int)
 | (v50009, v50010, v50011) => (bif (decide (v50011 < (v0.length : Int))) then ((ix v0 v50011).bind fun v1005 => ((F_impl_playersAt v0 v1005.2.1).bind fun v1006 => (bif (decide (v50010 < (v1006.length : Int))) then k1 (v1005.2.1, (v1006.length : Int), w64 (v50011 + 1))
 else k1 (v50009, v50010, w64 (v50011 + 1)))))
 else some (v50009, v50010, 0))
noncomputable def F_impl_FullestTime (v0 : List TTurn) : Option (Int × Int × Int) :=
 ((F_impl_ValidTurns v0).bind fun v1000 => (bif (!v1000) then some (0, 0, 1)
 else (bif (decide ((v0.length : Int) = (0 : Int))) then some (0, 0, 3)
 else loop (F_impl_FullestTime_l0 v0) (0, 0, 0))))
@[simp] def res_impl_FullestTime (r : Int × Int × Int) : RV := .tup [.one (.val (.int .i64 r.1)), .one (.val (.int .i64 r.2.1)), .one (.val (.int .i64 r.2.2))]
theorem con_impl_FullestTime {v0 : List TTurn} {r : Int × Int × Int} (hF : F_impl_FullestTime v0 = some r) : Con Try.prog 13 [.sl 3 (v0.map eTurn)] (res_impl_FullestTime r) := by
 unfold F_impl_FullestTime at hF
 refine con_of c13_is fun N => ?_
 refine ws 0 192 ?_
 refine qp (AI 0) rfl (qp (AI 0) rfl (qp (AI 0) rfl ?_))
 refine r_nil ?_
 refine w_seq ?_
 refine w_block ?_
 refine ws 192 448 ?_
 refine qp (AL 3 (v0.map eTurn)) rfl ?_
 obtain ⟨v1000, e1000, hF⟩ := bind_get hF
 refine qc (AB v1000) [] false (con_impl_ValidTurns e1000) c18_ok (by first | rfl | simp) rfl ?_
 refine qp (AB (!v1000)) rfl (qp (AB (!v1000)) rfl ?_)
 refine r_nil ?_
 refine cF hF (fun hF => ?_) fun hF => ?_
 ·
  refine ws 448 640 ?_
  refine qp (AI 0) rfl (qp (AI 0) rfl (qp (AI 1) rfl ?_))
  refine r_nil ?_
  refine w_ret ?_
  refine blockQ_r ?_
  refine thenQ_r ?_
  cases hF
  exact eR
 ·
  refine ws 448 704 ?_
  refine qp (AL 3 (v0.map eTurn)) rfl (qp (AI (v0.length : Int)) (ev_len_n rfl) (qp (AB (decide ((v0.length : Int) = (0 : Int)))) rfl (qp (AB (decide ((v0.length : Int) = (0 : Int)))) rfl ?_)))
  refine r_nil ?_
  refine cF hF (fun hF => ?_) fun hF => ?_
  ·
   refine ws 704 896 ?_
   refine qp (AI 0) rfl (qp (AI 0) rfl (qp (AI 3) rfl ?_))
   refine r_nil ?_
   refine w_ret ?_
   refine blockQ_r ?_
   refine thenQ_r ?_
   cases hF
   exact eR
  ·
   refine w_skip ?_
   refine blockQ_n ?_
   refine thenQ_n ?_
   refine ws 704 832 ?_
   refine qp (AI 0) rfl (qp (AI 0) rfl ?_)
   refine r_nil ?_
   refine w_seq ?_
   refine ws 832 1024 ?_
   refine qp (AL 3 (v0.map eTurn)) rfl (qp (AI (v0.length : Int)) (ev_len_n rfl) (qp (AI 0) rfl ?_))
   refine r_nil ?_
   refine w_block ?_
   refine wr (l' := [(0, AL 3 (v0.map eTurn)), (5, AI 0), (6, AI 0), (18, AL 3 (v0.map eTurn)), (19, AI (v0.length : Int)), (20, AI 0)]) (L := []) [0, 5, 6, 18, 19, 20] [] 1 ?_
   refine w_loopF (F_impl_FullestTime_l0 v0) (fun s : Int × Int × Int => mkS [(0, AL 3 (v0.map eTurn)), (5, AI s.1), (6, AI s.2.1), (18, AL 3 (v0.map eTurn)), (19, AI (v0.length : Int)), (20, AI s.2.2)] (fo []) 1) hF ?_
   rintro k1 ⟨v50009, v50010, v50011⟩ hF
   rw [F_impl_FullestTime_l0] at hF
   try dsimp only
   refine ws 1 65 ?_
   refine qp (AB (decide (v50011 < (v0.length : Int)))) rfl ?_
   refine r_nil ?_
   refine w_seq ?_
   refine cF hF (fun hF => ?_) fun hF => ?_
   ·
    refine w_skip ?_
    refine thenQ_n ?_
    refine w_seq ?_
    refine w_block ?_
    refine ws 65 321 ?_
    obtain ⟨v1005, e1005, hF⟩ := bind_get hF
    refine qp (.val none (.ptr [.str v1005.1, .int .i64 v1005.2.1, .int .i64 v1005.2.2])) (ev_iad_n rfl rfl e1005 rfl) (qp (.val none (eTurn v1005)) rfl ?_)
    refine qf (.ptr 193 0 0) [(193, .box [AS [], AI 0, AI 0])] (by simp) ?_
    refine qf0 (.undef) [(193, .box [AS v1005.1, AI v1005.2.1, AI v1005.2.2]), (193, .box [AS [], AI 0, AI 0])] (by simp) ?_
    refine r_nil ?_
    refine ws 321 705 ?_
    refine qp (AL 3 (v0.map eTurn)) rfl (qp (.ptr 193 0 1) rfl (qp (AI v1005.2.1) rfl ?_))
    obtain ⟨v1006, e1006, hF⟩ := bind_get hF
    refine qc (.sl 513 0 v1006.length) [(513, .row true 1 (v1006.map V.str)), (193, .box [AS v1005.1, AI v1005.2.1, AI v1005.2.2]), (193, .box [AS [], AI 0, AI 0])] false (con_impl_playersAt e1006) c30_ok (by first | rfl | simp) (by simp [res_impl_playersAt]) ?_
    refine qp (AI (v1006.length : Int)) rfl (qp (AI (v1006.length : Int)) rfl ?_)
    refine r_nil ?_
    refine ws 705 897 ?_
    refine qp (AI (v1006.length : Int)) rfl (qp (AI v50010) rfl (qp (AB (decide (v50010 < (v1006.length : Int)))) rfl ?_))
    refine r_nil ?_
    refine cF hF (fun hF => ?_) fun hF => ?_
    ·
     refine w_reg 897 1217 rfl rfl ?_
     refine qp (.ptr 193 0 1) rfl (qp (AI v1005.2.1) rfl (qp (AI (v1006.length : Int)) rfl (qp (AI v1005.2.1) rfl (qp (AI (v1006.length : Int)) rfl ?_))))
     refine r_nil ?_
     refine blockQ_n ?_
     refine thenQ_n ?_
     refine w_reg 1217 1345 rfl rfl ?_
     refine qp (AI (w64 (v50011 + 1))) rfl (qp (AI (w64 (v50011 + 1))) rfl ?_)
     refine r_nil ?_
     refine thenQ_n ?_
     refine ar (l' := [(0, AL 3 (v0.map eTurn)), (5, AI v1005.2.1), (6, AI (v1006.length : Int)), (18, AL 3 (v0.map eTurn)), (19, AI (v0.length : Int)), (20, AI (w64 (v50011 + 1)))]) (L := []) [0, 5, 6, 18, 19, 20] [] 1 ⟨_, by rfl, hF⟩
    ·
     refine w_skip ?_
     refine blockQ_n ?_
     refine thenQ_n ?_
     refine w_reg 897 1025 rfl rfl ?_
     refine qp (AI (w64 (v50011 + 1))) rfl (qp (AI (w64 (v50011 + 1))) rfl ?_)
     refine r_nil ?_
     refine thenQ_n ?_
     refine ar (l' := [(0, AL 3 (v0.map eTurn)), (5, AI v50009), (6, AI v50010), (18, AL 3 (v0.map eTurn)), (19, AI (v0.length : Int)), (20, AI (w64 (v50011 + 1)))]) (L := []) [0, 5, 6, 18, 19, 20] [] 1 ⟨_, by rfl, hF⟩
   ·
    refine w_exit ?_
    refine thenQ_e ?_
    refine thenQ_e ?_
    refine blockQ_e ?_
    refine thenQ_n ?_
    refine ws 65 385 ?_
    refine qp (AI v50009) rfl (qp (AI v50010) rfl (qp (AI v50009) rfl (qp (AI v50010) rfl (qp (AI 0) rfl ?_))))
    refine r_nil ?_
    refine w_ret ?_
    cases hF
    exact eR

end Go.Ab
