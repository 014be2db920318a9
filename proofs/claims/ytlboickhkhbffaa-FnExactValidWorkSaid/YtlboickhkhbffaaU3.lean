/- Walks (printed by auto.py, a program of this session's own). -/
import Derived.Test.YtlboickhkhbffaaU2
import Derived.Test.YtlboickhkhbffaaProg
import Derived.KernelRfl
import Derived.Test.YtlboickhkhbffaaSQ
set_option linter.unusedVariables false
set_option linter.unusedSimpArgs false
set_option maxRecDepth 8000
set_option maxHeartbeats 8000000
namespace Go.Ab
open Go.RowKit Go.Proofs

def c49 : MC := (.seq (.reg [rg 3 (.f (.box (.t 0))), rg 6 (.f (.alloc [((.int .i64 0), (0, false)), ((.int .i64 0), (0, false)), ((.sl 0 []), (1, false)), ((.sl 0 []), (3, false))])), rg 7 (.p true (.mv (.c (.int .i64 0))))]) (.seq (.block 0 (.seq (.reg [rg 16 (.p true (.ld (.t 3) 6 true)), rg 17 (.call true 153 [(.t 16)]), rg 18 (.p true (.not (.t 17))), mvt 15 18]) (.cond (.t 15) (.seq (.reg [rg 19 (.f (.bld [((.int .i64 0), (0, false)), ((.int .i64 0), (0, false)), ((.sl 0 []), (1, false)), ((.sl 0 []), (3, false))] [])), ⟨none, none, (.f (.st (.t 6) (.t 19) 4))⟩, rg 7 (.p true (.mv (.c (.int .i64 1))))]) .ret) (.seq (.reg [mvt 21 1, rg 22 (.call true 154 [(.t 21)]), rg 23 (.p true (.not (.t 22))), mvt 24 23, ⟨(some 25), (some (24, false)), (.p true (.mv (.t 2)))⟩, ⟨(some 26), (some (24, false)), (.p true (.mv (.t 1)))⟩, ⟨(some 27), (some (24, false)), (.call true 103 [(.t 25), (.t 26), (.c (.int .i64 23))])⟩, ⟨(some 28), (some (24, false)), (.p true (.not (.t 27)))⟩, rg 29 (.p true (.pick (.t 24) (.c (.bool true)) (.t 28))), mvt 20 29]) (.cond (.t 20) (.seq (.reg [rg 30 (.f (.bld [((.int .i64 0), (0, false)), ((.int .i64 0), (0, false)), ((.sl 0 []), (1, false)), ((.sl 0 []), (3, false))] [])), ⟨none, none, (.f (.st (.t 6) (.t 30) 4))⟩, rg 7 (.p true (.mv (.c (.int .i64 2))))]) .ret) .skip))))) (.seq (.reg [rg 31 (.f (.bld [((.int .i64 0), (0, true)), ((.int .i64 0), (0, false)), ((.sl 0 []), (1, false)), ((.sl 0 []), (3, false))] [(0, (1, (.c (.int .i64 1))))])), rg 8 (.f (.alloc [((.int .i64 0), (0, false)), ((.int .i64 0), (0, false)), ((.sl 0 []), (1, false)), ((.sl 0 []), (3, false))])), ⟨none, none, (.f (.st (.t 8) (.t 31) 4))⟩]) (.seq (.reg [rg 9 (.f (.nilrow 1))]) (.seq (.seq (.reg [mvt 32 1, mvt 10 32]) (.block 1 (.loop (.seq (.seq (.reg [mvt 33 10, mvt 34 2, rg 35 (.p true (.bin .leq (.t 33) (.t 34)))]) (.cond (.t 35) .skip (.exit 1))) (.seq (.block 2 (.seq (.seq (.reg [rg 38 (.p false (.ld (.t 3) 6 true)), rg 39 (.p false (.mv (.t 10))), rg 40 (.call false 156 [(.t 39)]), rg 41 (.call false 155 [(.t 38), (.t 40)]), rg 42 (.p false (.not (.t 41)))]) (.cond (.t 42) (.exit 2) .skip)) (.seq (.reg [mvt 43 9, mvt 44 10, rg 45 (.f (.bsl 1 [(.t 44)])), rg 46 (.f (.app (.t 43) (.t 45) 1 8 true)), mvt 9 46]) (.seq (.seq (.reg [mvt 47 10, rg 48 (.call true 156 [(.t 47)]), rg 49 (.p true (.bin .eql (.t 48) (.c (.int .i64 0))))]) (.cond (.t 49) (.reg [rg 50 (.p true (.fad (.t 8) 2)), rg 51 (.p true (.ld (.t 50) 1 false)), rg 52 (.p true (.fad (.t 8) 0)), rg 53 (.p true (.ld (.t 52) 1 false)), rg 54 (.f (.bsl 1 [(.t 53)])), rg 55 (.f (.app (.t 51) (.t 54) 1 8 true)), rg 56 (.p true (.fad (.t 8) 2)), ⟨none, none, (.f (.st (.t 56) (.t 55) 1))⟩]) .skip)) (.seq (.reg [rg 57 (.p true (.fad (.t 8) 3)), rg 58 (.p true (.ld (.t 57) 1 false)), mvt 59 10, rg 60 (.p true (.fad (.t 8) 0)), rg 61 (.p true (.ld (.t 60) 1 false)), rg 62 (.f (.bld [((.int .i64 0), (0, true)), ((.int .i64 0), (0, true)), ((.int .i64 0), (0, true))] [(0, (1, (.c (.int .i64 0)))), (1, (1, (.t 59))), (2, (1, (.t 61)))])), rg 63 (.f (.bsl 3 [(.t 62)])), rg 64 (.f (.app (.t 58) (.t 63) 3 24 true)), rg 65 (.p true (.fad (.t 8) 3)), ⟨none, none, (.f (.st (.t 65) (.t 64) 1))⟩]) (.reg [rg 66 (.p true (.fad (.t 8) 0)), rg 67 (.p true (.ld (.t 66) 1 false)), rg 68 (.p true (.bin .add (.t 67) (.c (.int .i64 1)))), rg 69 (.p true (.fad (.t 8) 0)), ⟨none, none, (.f (.st (.t 69) (.t 68) 1))⟩])))))) (.reg [mvt 36 10, rg 37 (.p true (.bin .add (.t 36) (.c (.int .i64 1)))), mvt 10 37])))))) (.seq (.seq (.reg [mvt 70 9, rg 71 (.p true (.len (.t 70))), rg 72 (.p true (.mv (.c (.int .i64 0))))]) (.block 3 (.loop (.seq (.reg [rg 73 (.p true (.bin .lss (.t 72) (.t 71)))]) (.seq (.cond (.t 73) .skip (.exit 3)) (.seq (.block 4 (.seq (.reg [mvt 74 72, rg 75 (.p true (.iad (.t 70) (.t 72) 1)), rg 76 (.p true (.ld (.t 75) 1 false)), mvt 11 74, mvt 12 76]) (.seq (.reg [mvt 77 9, rg 78 (.p true (.len (.t 77))), rg 79 (.p true (.mv (.c (.int .i64 0))))]) (.block 5 (.loop (.seq (.reg [rg 80 (.p true (.bin .lss (.t 79) (.t 78)))]) (.seq (.cond (.t 80) .skip (.exit 5)) (.seq (.block 6 (.seq (.reg [mvt 81 79, rg 82 (.p true (.iad (.t 77) (.t 79) 1)), rg 83 (.p true (.ld (.t 82) 1 false)), mvt 13 81, mvt 14 83]) (.seq (.reg [rg 84 (.p true (.ld (.t 3) 6 true)), mvt 85 12, mvt 86 14, rg 87 (.call true 157 [(.t 84), (.t 85), (.t 86)]), rg 88 (.p true (.bin .eql (.t 87) (.c (.int .i64 0))))]) (.cond (.t 88) (.reg [rg 89 (.p true (.fad (.t 8) 3)), rg 90 (.p true (.ld (.t 89) 1 false)), mvt 91 11, rg 92 (.p true (.bin .add (.t 91) (.c (.int .i64 1)))), mvt 93 14, mvt 94 13, rg 95 (.p true (.bin .add (.t 94) (.c (.int .i64 1)))), rg 96 (.f (.bld [((.int .i64 0), (0, true)), ((.int .i64 0), (0, true)), ((.int .i64 0), (0, true))] [(0, (1, (.t 92))), (1, (1, (.t 93))), (2, (1, (.t 95)))])), rg 97 (.f (.bsl 3 [(.t 96)])), rg 98 (.f (.app (.t 90) (.t 97) 3 24 true)), rg 99 (.p true (.fad (.t 8) 3)), ⟨none, none, (.f (.st (.t 99) (.t 98) 1))⟩]) .skip)))) (.reg [rg 100 (.p true (.bin .add (.t 79) (.c (.int .i64 1)))), mvt 79 100]))))))))) (.reg [rg 101 (.p true (.bin .add (.t 72) (.c (.int .i64 1)))), mvt 72 101]))))))) (.seq (.seq (.reg [rg 102 (.p true (.fad (.t 8) 0)), rg 103 (.p true (.ld (.t 102) 1 false)), rg 104 (.p true (.bin .gtr (.t 103) (.c (.int .i64 32)))), mvt 105 104, ⟨(some 106), (some (105, false)), (.p true (.fad (.t 8) 3))⟩, ⟨(some 107), (some (105, false)), (.p true (.ld (.t 106) 1 false))⟩, ⟨(some 108), (some (105, false)), (.p true (.len (.t 107)))⟩, ⟨(some 109), (some (105, false)), (.p true (.bin .gtr (.t 108) (.c (.int .i64 256))))⟩, rg 110 (.p true (.pick (.t 105) (.c (.bool true)) (.t 109)))]) (.cond (.t 110) (.seq (.reg [rg 111 (.f (.bld [((.int .i64 0), (0, false)), ((.int .i64 0), (0, false)), ((.sl 0 []), (1, false)), ((.sl 0 []), (3, false))] [])), ⟨none, none, (.f (.st (.t 6) (.t 111) 4))⟩, rg 7 (.p true (.mv (.c (.int .i64 5))))]) .ret) .skip)) (.seq (.reg [rg 112 (.p true (.ld (.t 8) 4 true)), ⟨none, none, (.f (.st (.t 6) (.t 112) 4))⟩, rg 7 (.p true (.mv (.c (.int .i64 0))))]) .ret))))))))
theorem c49_is : compFn Try.prog 49 = some (c49, [(.cell (.ld (.t 6) 4 true)), (.tmp 7)]) := by kernel_rfl
theorem c49_ok : okFn Try.prog 49 = true := by kernel_rfl

noncomputable def F_impl_GrammarOf_j3 (v1026 : Int) (v1027 : Int) (v1028 : List Int) (v1030 : List TArc) (k5 : Int × Int × (List Int) × (List Int) × (List TArc) → Option (TGrammar × Int)) (v1036 : List Int) : Option (TGrammar × Int) :=
 (need (room (v1030.length + ([(0, v1026, v1027)] : List TArc).length) 24) (k5 (w64 (v1026 + 1), w64 (v1027 + 1), v1028 ++ [v1026], v1036, v1030 ++ ([(0, v1026, v1027)] : List TArc))))
noncomputable def F_impl_GrammarOf_l7 (v0 : TRaga) (v1028 : List Int) (v1070 : Int) (v1072 : Int) (k8 : Int × (List TArc) → Option (TGrammar × Int)) (k9 : Int × (List TArc) → Option (TGrammar × Int)) : Int × (List TArc) → Option (TGrammar × Int)
 | (v1081, v1082) => (bif (decide (v1081 < (v1028.length : Int))) then ((ix v1028 v1081).bind fun v1083 => ((F_impl_Raga_reason v0 v1072 v1083).bind fun v1084 => (bif (decide (v1084 = (0 : Int))) then (need (room (v1082.length + ([(w64 (v1070 + 1), v1083, w64 (v1081 + 1))] : List TArc).length) 24) (k9 (w64 (v1081 + 1), v1082 ++ ([(w64 (v1070 + 1), v1083, w64 (v1081 + 1))] : List TArc))))
 else k9 (w64 (v1081 + 1), v1082))))
 else k8 (w64 (v1070 + 1), v1082))
noncomputable def F_impl_GrammarOf_l6 (v0 : TRaga) (v1027 : Int) (v1028 : List Int) (v1029 : List Int) (k8 : Int × (List TArc) → Option (TGrammar × Int)) : Int × (List TArc) → Option (TGrammar × Int)
 | (v1070, v1071) => (bif (decide (v1070 < (v1028.length : Int))) then ((ix v1028 v1070).bind fun v1072 => loop (F_impl_GrammarOf_l7 v0 v1028 v1070 v1072 k8) (0, v1071))
 else (bif (decide ((32 : Int) < v1027)) then some ((0, 0, [], []), 5)
 else (bif (decide ((256 : Int) < (v1071.length : Int))) then some ((0, 0, [], []), 5)
 else some ((v1027, 0, v1029, v1071), 0))))
noncomputable def F_impl_GrammarOf_l2 (v0 : TRaga) (v2 : Int) (k5 : Int × Int × (List Int) × (List Int) × (List TArc) → Option (TGrammar × Int)) : Int × Int × (List Int) × (List Int) × (List TArc) → Option (TGrammar × Int)
 | (v1026, v1027, v1028, v1029, v1030) => (bif (decide (v1026 ≤ v2)) then ((F_impl_ToneOf v1026).bind fun v1031 => ((F_impl_Raga_hasTone v0 v1031).bind fun v1032 => (bif (!v1032) then k5 (w64 (v1026 + 1), v1027, v1028, v1029, v1030)
 else (need (room (v1028.length + [v1026].length) 8) (((F_impl_ToneOf v1026).bind fun v1037 => (bif (decide (v1037 = (0 : Int))) then (need (room (v1029.length + [v1027].length) 8) (F_impl_GrammarOf_j3 v1026 v1027 v1028 v1030 k5 (v1029 ++ [v1027])))
 else F_impl_GrammarOf_j3 v1026 v1027 v1028 v1030 k5 v1029)))))))
 else loop (F_impl_GrammarOf_l6 v0 v1027 v1028 v1029) (0, v1030))
noncomputable def F_impl_GrammarOf (v0 : TRaga) (v1 : Int) (v2 : Int) : Option (TGrammar × Int) :=
 ((F_impl_ValidRaga v0).bind fun v1000 => (bif (!v1000) then some ((0, 0, [], []), 1)
 else ((F_impl_pitchOk v1).bind fun v1001 => (bif (!v1001) then some ((0, 0, [], []), 2)
 else ((F_impl_within v2 v1 23).bind fun v1002 => (bif (!v1002) then some ((0, 0, [], []), 2)
 else loop (F_impl_GrammarOf_l2 v0 v2) (v1, 1, [], [], [])))))))
@[simp] def res_impl_GrammarOf (r : TGrammar × Int) : RV := .tup [.agg [.val (.int .i64 r.1.1), .val (.int .i64 r.1.2.1), .row true 1 (r.1.2.2.1.map vI), .row true 3 (r.1.2.2.2.map eArc)], .one (.val (.int .i64 r.2))]
theorem con_impl_GrammarOf {v0 : TRaga} {v1 : Int} {v2 : Int} {r : TGrammar × Int} (hF : F_impl_GrammarOf v0 v1 v2 = some r) : Con Try.prog 49 [eRaga v0, .int .i64 v1, .int .i64 v2] (res_impl_GrammarOf r) := by
 unfold F_impl_GrammarOf at hF
 refine con_of c49_is fun N => ?_
 refine ws 0 192 ?_
 refine qf (.ptr 0 0 0) [(0, .box [AS v0.1, AL 1 (v0.2.1.map vI), AL 1 (v0.2.2.1.map vI), AI v0.2.2.2.1, AI v0.2.2.2.2.1, AL 1 (v0.2.2.2.2.2.map (eL 1 vI))])] (by simp) ?_
 refine qf (.ptr 64 0 0) [(64, .box [AI 0, AI 0, .sl 65 0 0, .sl 66 0 0]), (66, .row true 3 (([] : List Int).map vI)), (65, .row true 1 (([] : List Int).map vI)), (0, .box [AS v0.1, AL 1 (v0.2.1.map vI), AL 1 (v0.2.2.1.map vI), AI v0.2.2.2.1, AI v0.2.2.2.2.1, AL 1 (v0.2.2.2.2.2.map (eL 1 vI))])] (by simp) ?_
 refine qp (AI 0) rfl ?_
 refine r_nil ?_
 refine w_seq ?_
 refine w_block ?_
 refine ws 192 448 ?_
 refine qp (.agg [AS v0.1, AL 1 (v0.2.1.map vI), AL 1 (v0.2.2.1.map vI), AI v0.2.2.2.1, AI v0.2.2.2.2.1, AL 1 (v0.2.2.2.2.2.map (eL 1 vI))]) rfl ?_
 obtain ⟨v1000, e1000, hF⟩ := bind_get hF
 refine qc (AB v1000) [(64, .box [AI 0, AI 0, .sl 65 0 0, .sl 66 0 0]), (66, .row true 3 (([] : List Int).map vI)), (65, .row true 1 (([] : List Int).map vI)), (0, .box [AS v0.1, AL 1 (v0.2.1.map vI), AL 1 (v0.2.2.1.map vI), AI v0.2.2.2.1, AI v0.2.2.2.2.1, AL 1 (v0.2.2.2.2.2.map (eL 1 vI))])] false (con_impl_ValidRaga e1000) c153_ok (by first | rfl | simp) rfl ?_
 refine qp (AB (!v1000)) rfl (qp (AB (!v1000)) rfl ?_)
 refine r_nil ?_
 refine cF hF (fun hF => ?_) fun hF => ?_
 ·
  refine ws 448 640 ?_
  refine qf (.agg [AI 0, AI 0, .sl 448 0 0, .sl 449 0 0]) [(449, .row true 3 (([] : List TArc).map eArc)), (448, .row true 1 (([] : List Int).map vI)), (64, .box [AI 0, AI 0, .sl 65 0 0, .sl 66 0 0]), (66, .row true 3 (([] : List Int).map vI)), (65, .row true 1 (([] : List Int).map vI)), (0, .box [AS v0.1, AL 1 (v0.2.1.map vI), AL 1 (v0.2.2.1.map vI), AI v0.2.2.2.1, AI v0.2.2.2.2.1, AL 1 (v0.2.2.2.2.2.map (eL 1 vI))])] (by simp) ?_
  refine qf0 (.undef) [(64, .box [AI 0, AI 0, .sl 448 0 0, .sl 449 0 0]), (449, .row true 3 (([] : List TArc).map eArc)), (448, .row true 1 (([] : List Int).map vI)), (64, .box [AI 0, AI 0, .sl 65 0 0, .sl 66 0 0]), (66, .row true 3 (([] : List Int).map vI)), (65, .row true 1 (([] : List Int).map vI)), (0, .box [AS v0.1, AL 1 (v0.2.1.map vI), AL 1 (v0.2.2.1.map vI), AI v0.2.2.2.1, AI v0.2.2.2.2.1, AL 1 (v0.2.2.2.2.2.map (eL 1 vI))])] (by simp) ?_
  refine qp (AI 1) rfl ?_
  refine r_nil ?_
  refine w_ret ?_
  refine blockQ_r ?_
  refine thenQ_r ?_
  cases hF
  exact eR
 ·
  refine ws 448 1088 ?_
  refine qp (AI v1) rfl ?_
  obtain ⟨v1001, e1001, hF⟩ := bind_get hF
  refine qc (AB v1001) [(64, .box [AI 0, AI 0, .sl 65 0 0, .sl 66 0 0]), (66, .row true 3 (([] : List Int).map vI)), (65, .row true 1 (([] : List Int).map vI)), (0, .box [AS v0.1, AL 1 (v0.2.1.map vI), AL 1 (v0.2.2.1.map vI), AI v0.2.2.2.1, AI v0.2.2.2.2.1, AL 1 (v0.2.2.2.2.2.map (eL 1 vI))])] false (con_impl_pitchOk e1001) c154_ok (by first | rfl | simp) rfl ?_
  refine qp (AB (!v1001)) rfl (qp (AB (!v1001)) rfl ?_)
  refine q_case 24 hF rfl (fun hF => ?_) (fun hF => ?_)
  ·
   refine qn rfl (qn rfl (qn rfl (qn rfl (qp (AB true) rfl (qp (AB true) rfl ?_)))))
   refine r_nil ?_
   refine w_true rfl ?_
   refine ws 1088 1280 ?_
   refine qf (.agg [AI 0, AI 0, .sl 1088 0 0, .sl 1089 0 0]) [(1089, .row true 3 (([] : List TArc).map eArc)), (1088, .row true 1 (([] : List Int).map vI)), (64, .box [AI 0, AI 0, .sl 65 0 0, .sl 66 0 0]), (66, .row true 3 (([] : List Int).map vI)), (65, .row true 1 (([] : List Int).map vI)), (0, .box [AS v0.1, AL 1 (v0.2.1.map vI), AL 1 (v0.2.2.1.map vI), AI v0.2.2.2.1, AI v0.2.2.2.2.1, AL 1 (v0.2.2.2.2.2.map (eL 1 vI))])] (by simp) ?_
   refine qf0 (.undef) [(64, .box [AI 0, AI 0, .sl 1088 0 0, .sl 1089 0 0]), (1089, .row true 3 (([] : List TArc).map eArc)), (1088, .row true 1 (([] : List Int).map vI)), (64, .box [AI 0, AI 0, .sl 65 0 0, .sl 66 0 0]), (66, .row true 3 (([] : List Int).map vI)), (65, .row true 1 (([] : List Int).map vI)), (0, .box [AS v0.1, AL 1 (v0.2.1.map vI), AL 1 (v0.2.2.1.map vI), AI v0.2.2.2.1, AI v0.2.2.2.2.1, AL 1 (v0.2.2.2.2.2.map (eL 1 vI))])] (by simp) ?_
   refine qp (AI 2) rfl ?_
   refine r_nil ?_
   refine w_ret ?_
   refine blockQ_r ?_
   refine thenQ_r ?_
   cases hF
   exact eR
  ·
   refine qg (AI v2) rfl rfl (qg (AI v1) rfl rfl ?_)
   obtain ⟨v1002, e1002, hF⟩ := bind_get hF
   refine qcg (AB v1002) [(64, .box [AI 0, AI 0, .sl 65 0 0, .sl 66 0 0]), (66, .row true 3 (([] : List Int).map vI)), (65, .row true 1 (([] : List Int).map vI)), (0, .box [AS v0.1, AL 1 (v0.2.1.map vI), AL 1 (v0.2.2.1.map vI), AI v0.2.2.2.1, AI v0.2.2.2.2.1, AL 1 (v0.2.2.2.2.2.map (eL 1 vI))])] false rfl (con_impl_within e1002) c103_ok (by first | rfl | simp) rfl ?_
   refine qg (AB (!v1002)) rfl rfl (qp (AB (!v1002)) rfl (qp (AB (!v1002)) rfl ?_))
   refine r_nil ?_
   refine cF hF (fun hF => ?_) fun hF => ?_
   ·
    refine ws 1088 1280 ?_
    refine qf (.agg [AI 0, AI 0, .sl 1088 0 0, .sl 1089 0 0]) [(1089, .row true 3 (([] : List TArc).map eArc)), (1088, .row true 1 (([] : List Int).map vI)), (64, .box [AI 0, AI 0, .sl 65 0 0, .sl 66 0 0]), (66, .row true 3 (([] : List Int).map vI)), (65, .row true 1 (([] : List Int).map vI)), (0, .box [AS v0.1, AL 1 (v0.2.1.map vI), AL 1 (v0.2.2.1.map vI), AI v0.2.2.2.1, AI v0.2.2.2.2.1, AL 1 (v0.2.2.2.2.2.map (eL 1 vI))])] (by simp) ?_
    refine qf0 (.undef) [(64, .box [AI 0, AI 0, .sl 1088 0 0, .sl 1089 0 0]), (1089, .row true 3 (([] : List TArc).map eArc)), (1088, .row true 1 (([] : List Int).map vI)), (64, .box [AI 0, AI 0, .sl 65 0 0, .sl 66 0 0]), (66, .row true 3 (([] : List Int).map vI)), (65, .row true 1 (([] : List Int).map vI)), (0, .box [AS v0.1, AL 1 (v0.2.1.map vI), AL 1 (v0.2.2.1.map vI), AI v0.2.2.2.1, AI v0.2.2.2.2.1, AL 1 (v0.2.2.2.2.2.map (eL 1 vI))])] (by simp) ?_
    refine qp (AI 2) rfl ?_
    refine r_nil ?_
    refine w_ret ?_
    refine blockQ_r ?_
    refine thenQ_r ?_
    cases hF
    exact eR
   ·
    refine w_skip ?_
    refine blockQ_n ?_
    refine thenQ_n ?_
    refine ws 1088 1280 ?_
    refine qf (.agg [AI 1, AI 0, .sl 1088 0 0, .sl 1089 0 0]) [(1089, .row true 3 (([] : List TArc).map eArc)), (1088, .row true 1 (([] : List Int).map vI)), (64, .box [AI 0, AI 0, .sl 65 0 0, .sl 66 0 0]), (66, .row true 3 (([] : List Int).map vI)), (65, .row true 1 (([] : List Int).map vI)), (0, .box [AS v0.1, AL 1 (v0.2.1.map vI), AL 1 (v0.2.2.1.map vI), AI v0.2.2.2.1, AI v0.2.2.2.2.1, AL 1 (v0.2.2.2.2.2.map (eL 1 vI))])] (by simp) ?_
    refine qf (.ptr 1152 0 0) [(1152, .box [AI 0, AI 0, .sl 1153 0 0, .sl 1154 0 0]), (1154, .row true 3 (([] : List Int).map vI)), (1153, .row true 1 (([] : List Int).map vI)), (1089, .row true 3 (([] : List TArc).map eArc)), (1088, .row true 1 (([] : List Int).map vI)), (64, .box [AI 0, AI 0, .sl 65 0 0, .sl 66 0 0]), (66, .row true 3 (([] : List Int).map vI)), (65, .row true 1 (([] : List Int).map vI)), (0, .box [AS v0.1, AL 1 (v0.2.1.map vI), AL 1 (v0.2.2.1.map vI), AI v0.2.2.2.1, AI v0.2.2.2.2.1, AL 1 (v0.2.2.2.2.2.map (eL 1 vI))])] (by simp) ?_
    refine qf0 (.undef) [(1152, .box [AI 1, AI 0, .sl 1088 0 0, .sl 1089 0 0]), (1152, .box [AI 0, AI 0, .sl 1153 0 0, .sl 1154 0 0]), (1154, .row true 3 (([] : List Int).map vI)), (1153, .row true 1 (([] : List Int).map vI)), (1089, .row true 3 (([] : List TArc).map eArc)), (1088, .row true 1 (([] : List Int).map vI)), (64, .box [AI 0, AI 0, .sl 65 0 0, .sl 66 0 0]), (66, .row true 3 (([] : List Int).map vI)), (65, .row true 1 (([] : List Int).map vI)), (0, .box [AS v0.1, AL 1 (v0.2.1.map vI), AL 1 (v0.2.2.1.map vI), AI v0.2.2.2.1, AI v0.2.2.2.2.1, AL 1 (v0.2.2.2.2.2.map (eL 1 vI))])] (by simp) ?_
    refine r_nil ?_
    refine ws 1280 1344 ?_
    refine qf (.sl 1280 0 0) [(1280, .row true 1 (([] : List Int).map vI)), (1152, .box [AI 1, AI 0, .sl 1088 0 0, .sl 1089 0 0]), (1152, .box [AI 0, AI 0, .sl 1153 0 0, .sl 1154 0 0]), (1154, .row true 3 (([] : List Int).map vI)), (1153, .row true 1 (([] : List Int).map vI)), (1089, .row true 3 (([] : List TArc).map eArc)), (1088, .row true 1 (([] : List Int).map vI)), (64, .box [AI 0, AI 0, .sl 65 0 0, .sl 66 0 0]), (66, .row true 3 (([] : List Int).map vI)), (65, .row true 1 (([] : List Int).map vI)), (0, .box [AS v0.1, AL 1 (v0.2.1.map vI), AL 1 (v0.2.2.1.map vI), AI v0.2.2.2.1, AI v0.2.2.2.2.1, AL 1 (v0.2.2.2.2.2.map (eL 1 vI))])] (by simp) ?_
    refine r_nil ?_
    refine w_seq ?_
    refine ws 1344 1472 ?_
    refine qp (AI v1) rfl (qp (AI v1) rfl ?_)
    refine r_nil ?_
    refine w_block ?_
    refine wr (l' := [(2, AI v2), (3, .ptr 0 0 0), (6, .ptr 1 0 0), (8, .ptr 2 0 0), (9, .sl 3 0 0), (10, AI v1)]) (L := [(7, .row true 3 (([] : List TArc).map eArc)), (6, .row true 1 (([] : List Int).map vI)), (5, .row true 3 (([] : List Int).map vI)), (4, .row true 1 (([] : List Int).map vI)), (3, .row true 1 (([] : List Int).map vI)), (2, .box [AI 1, AI 0, .sl 6 0 0, .sl 7 0 0]), (1, .box [AI 0, AI 0, .sl 4 0 0, .sl 5 0 0]), (0, .box [AS v0.1, AL 1 (v0.2.1.map vI), AL 1 (v0.2.2.1.map vI), AI v0.2.2.2.1, AI v0.2.2.2.2.1, AL 1 (v0.2.2.2.2.2.map (eL 1 vI))])]) [2, 3, 6, 8, 9, 10] [(1089, 7), (1088, 6), (66, 5), (65, 4), (1280, 3), (1152, 2), (64, 1), (0, 0)] 8 ?_
    refine w_loopF (F_impl_GrammarOf_l2 v0 v2) (fun s : Int × Int × (List Int) × (List Int) × (List TArc) => mkS [(2, AI v2), (3, .ptr 0 0 0), (6, .ptr 1 0 0), (8, .ptr 2 0 0), (9, .sl 3 0 s.2.2.1.length), (10, AI s.1)] (fo [(7, .row true 3 (s.2.2.2.2.map eArc)), (6, .row true 1 (s.2.2.2.1.map vI)), (5, .row true 3 (([] : List Int).map vI)), (4, .row true 1 (([] : List Int).map vI)), (3, .row true 1 (s.2.2.1.map vI)), (2, .box [AI s.2.1, AI 0, .sl 6 0 s.2.2.2.1.length, .sl 7 0 s.2.2.2.2.length]), (1, .box [AI 0, AI 0, .sl 4 0 0, .sl 5 0 0]), (0, .box [AS v0.1, AL 1 (v0.2.1.map vI), AL 1 (v0.2.2.1.map vI), AI v0.2.2.2.1, AI v0.2.2.2.2.1, AL 1 (v0.2.2.2.2.2.map (eL 1 vI))])]) 8) hF ?_
    rintro k5 ⟨v1026, v1027, v1028, v1029, v1030⟩ hF
    rw [F_impl_GrammarOf_l2] at hF
    try dsimp only
    refine w_seq ?_
    refine ws 8 200 ?_
    refine qp (AI v1026) rfl (qp (AI v2) rfl (qp (AB (decide (v1026 ≤ v2))) rfl ?_))
    refine r_nil ?_
    refine cF hF (fun hF => ?_) fun hF => ?_
    ·
     refine w_skip ?_
     refine thenQ_n ?_
     refine w_seq ?_
     refine w_block ?_
     refine w_seq ?_
     refine ws 200 520 ?_
     refine qp (.agg [AS v0.1, AL 1 (v0.2.1.map vI), AL 1 (v0.2.2.1.map vI), AI v0.2.2.2.1, AI v0.2.2.2.2.1, AL 1 (v0.2.2.2.2.2.map (eL 1 vI))]) rfl (qp (AI v1026) rfl ?_)
     obtain ⟨v1031, e1031, hF⟩ := bind_get hF
     refine qc (AI v1031) [(7, .row true 3 (v1030.map eArc)), (6, .row true 1 (v1029.map vI)), (5, .row true 3 (([] : List Int).map vI)), (4, .row true 1 (([] : List Int).map vI)), (3, .row true 1 (v1028.map vI)), (2, .box [AI v1027, AI 0, .sl 6 0 v1029.length, .sl 7 0 v1030.length]), (1, .box [AI 0, AI 0, .sl 4 0 0, .sl 5 0 0]), (0, .box [AS v0.1, AL 1 (v0.2.1.map vI), AL 1 (v0.2.2.1.map vI), AI v0.2.2.2.1, AI v0.2.2.2.2.1, AL 1 (v0.2.2.2.2.2.map (eL 1 vI))])] false (con_impl_ToneOf e1031) c156_ok (by first | rfl | simp) rfl ?_
     obtain ⟨v1032, e1032, hF⟩ := bind_get hF
     refine qc (AB v1032) [(7, .row true 3 (v1030.map eArc)), (6, .row true 1 (v1029.map vI)), (5, .row true 3 (([] : List Int).map vI)), (4, .row true 1 (([] : List Int).map vI)), (3, .row true 1 (v1028.map vI)), (2, .box [AI v1027, AI 0, .sl 6 0 v1029.length, .sl 7 0 v1030.length]), (1, .box [AI 0, AI 0, .sl 4 0 0, .sl 5 0 0]), (0, .box [AS v0.1, AL 1 (v0.2.1.map vI), AL 1 (v0.2.2.1.map vI), AI v0.2.2.2.1, AI v0.2.2.2.2.1, AL 1 (v0.2.2.2.2.2.map (eL 1 vI))])] false (con_impl_Raga_hasTone e1032) c155_ok (by first | rfl | simp) rfl ?_
     refine qp (AB (!v1032)) rfl ?_
     refine r_nil ?_
     refine cF hF (fun hF => ?_) fun hF => ?_
     ·
      refine w_exit ?_
      refine thenQ_e ?_
      refine blockQ_e ?_
      refine thenQ_n ?_
      refine w_reg 520 712 rfl rfl ?_
      refine qp (AI v1026) rfl (qp (AI (w64 (v1026 + 1))) rfl (qp (AI (w64 (v1026 + 1))) rfl ?_))
      refine r_nil ?_
      refine thenQ_n ?_
      refine ar (l' := [(2, AI v2), (3, .ptr 0 0 0), (6, .ptr 1 0 0), (8, .ptr 2 0 0), (9, .sl 3 0 v1028.length), (10, AI (w64 (v1026 + 1)))]) (L := [(7, .row true 3 (v1030.map eArc)), (6, .row true 1 (v1029.map vI)), (5, .row true 3 (([] : List Int).map vI)), (4, .row true 1 (([] : List Int).map vI)), (3, .row true 1 (v1028.map vI)), (2, .box [AI v1027, AI 0, .sl 6 0 v1029.length, .sl 7 0 v1030.length]), (1, .box [AI 0, AI 0, .sl 4 0 0, .sl 5 0 0]), (0, .box [AS v0.1, AL 1 (v0.2.1.map vI), AL 1 (v0.2.2.1.map vI), AI v0.2.2.2.1, AI v0.2.2.2.2.1, AL 1 (v0.2.2.2.2.2.map (eL 1 vI))])]) [2, 3, 6, 8, 9, 10] [(7, 7), (6, 6), (5, 5), (4, 4), (3, 3), (2, 2), (1, 1), (0, 0)] 8 ⟨_, by rfl, hF⟩
     ·
      refine w_skip ?_
      refine thenQ_n ?_
      refine ws 520 840 ?_
      refine qp (.sl 3 0 v1028.length) rfl (qp (AI v1026) rfl ?_)
      refine qf (.sl 648 0 ([v1026].length)) [(648, .row true 1 ([v1026].map vI)), (7, .row true 3 (v1030.map eArc)), (6, .row true 1 (v1029.map vI)), (5, .row true 3 (([] : List Int).map vI)), (4, .row true 1 (([] : List Int).map vI)), (3, .row true 1 (v1028.map vI)), (2, .box [AI v1027, AI 0, .sl 6 0 v1029.length, .sl 7 0 v1030.length]), (1, .box [AI 0, AI 0, .sl 4 0 0, .sl 5 0 0]), (0, .box [AS v0.1, AL 1 (v0.2.1.map vI), AL 1 (v0.2.2.1.map vI), AI v0.2.2.2.1, AI v0.2.2.2.2.1, AL 1 (v0.2.2.2.2.2.map (eL 1 vI))])] (by simp [List.take_of_length_le]) ?_
      obtain ⟨g1033, hF⟩ := need_some hF
      refine qf (.sl 712 0 ((v1028 ++ [v1026]).length)) [(712, .row true 1 ((v1028 ++ [v1026]).map vI)), (3, .dead), (648, .dead), (648, .row true 1 ([v1026].map vI)), (7, .row true 3 (v1030.map eArc)), (6, .row true 1 (v1029.map vI)), (5, .row true 3 (([] : List Int).map vI)), (4, .row true 1 (([] : List Int).map vI)), (3, .row true 1 (v1028.map vI)), (2, .box [AI v1027, AI 0, .sl 6 0 v1029.length, .sl 7 0 v1030.length]), (1, .box [AI 0, AI 0, .sl 4 0 0, .sl 5 0 0]), (0, .box [AS v0.1, AL 1 (v0.2.1.map vI), AL 1 (v0.2.2.1.map vI), AI v0.2.2.2.1, AI v0.2.2.2.2.1, AL 1 (v0.2.2.2.2.2.map (eL 1 vI))])] (effT_app_l rfl (by simp) rfl rfl (by simp) rfl (by decide) g1033 rfl) ?_
      refine qp (.sl 712 0 ((v1028 ++ [v1026]).length)) rfl ?_
      refine r_nil ?_
      refine w_meet (fun s' => ∃ (v1036 : List Int), s' = mkS [(2, AI v2), (3, .ptr 0 0 0), (6, .ptr 1 0 0), (8, .ptr 2 0 0), (9, .sl 3 0 ((v1028 ++ [v1026]).length)), (10, AI v1026)] (fo [(7, .row true 3 (v1030.map eArc)), (6, .row true 1 (v1036.map vI)), (5, .row true 3 (([] : List Int).map vI)), (4, .row true 1 (([] : List Int).map vI)), (3, .row true 1 ((v1028 ++ [v1026]).map vI)), (2, .box [AI v1027, AI 0, .sl 6 0 v1036.length, .sl 7 0 v1030.length]), (1, .box [AI 0, AI 0, .sl 4 0 0, .sl 5 0 0]), (0, .box [AS v0.1, AL 1 (v0.2.1.map vI), AL 1 (v0.2.2.1.map vI), AI v0.2.2.2.1, AI v0.2.2.2.2.1, AL 1 (v0.2.2.2.2.2.map (eL 1 vI))])]) 8 ∧ F_impl_GrammarOf_j3 v1026 v1027 v1028 v1030 k5 v1036 = some r) ?_ ?_
      ·
       refine ws 840 1032 ?_
       refine qp (AI v1026) rfl ?_
       obtain ⟨v1037, e1037, hF⟩ := bind_get hF
       refine qc (AI v1037) [(712, .row true 1 ((v1028 ++ [v1026]).map vI)), (3, .dead), (648, .dead), (648, .row true 1 ([v1026].map vI)), (7, .row true 3 (v1030.map eArc)), (6, .row true 1 (v1029.map vI)), (5, .row true 3 (([] : List Int).map vI)), (4, .row true 1 (([] : List Int).map vI)), (3, .row true 1 (v1028.map vI)), (2, .box [AI v1027, AI 0, .sl 6 0 v1029.length, .sl 7 0 v1030.length]), (1, .box [AI 0, AI 0, .sl 4 0 0, .sl 5 0 0]), (0, .box [AS v0.1, AL 1 (v0.2.1.map vI), AL 1 (v0.2.2.1.map vI), AI v0.2.2.2.1, AI v0.2.2.2.2.1, AL 1 (v0.2.2.2.2.2.map (eL 1 vI))])] false (con_impl_ToneOf e1037) c156_ok (by first | rfl | simp) rfl ?_
       refine qp (AB (decide (v1037 = (0 : Int)))) rfl ?_
       refine r_nil ?_
       refine cF hF (fun hF => ?_) fun hF => ?_
       ·
        refine w_reg 1032 1544 rfl rfl ?_
        refine qp (.ptr 2 0 2) rfl (qp (.sl 6 0 v1029.length) rfl (qp (.ptr 2 0 0) rfl (qp (AI v1027) rfl ?_)))
        refine qf (.sl 1288 0 ([v1027].length)) [(1288, .row true 1 ([v1027].map vI)), (712, .row true 1 ((v1028 ++ [v1026]).map vI)), (3, .dead), (648, .dead), (648, .row true 1 ([v1026].map vI)), (7, .row true 3 (v1030.map eArc)), (6, .row true 1 (v1029.map vI)), (5, .row true 3 (([] : List Int).map vI)), (4, .row true 1 (([] : List Int).map vI)), (3, .row true 1 (v1028.map vI)), (2, .box [AI v1027, AI 0, .sl 6 0 v1029.length, .sl 7 0 v1030.length]), (1, .box [AI 0, AI 0, .sl 4 0 0, .sl 5 0 0]), (0, .box [AS v0.1, AL 1 (v0.2.1.map vI), AL 1 (v0.2.2.1.map vI), AI v0.2.2.2.1, AI v0.2.2.2.2.1, AL 1 (v0.2.2.2.2.2.map (eL 1 vI))])] (by simp [List.take_of_length_le]) ?_
        obtain ⟨g1038, hF⟩ := need_some hF
        refine qf (.sl 1352 0 ((v1029 ++ [v1027]).length)) [(1352, .row true 1 ((v1029 ++ [v1027]).map vI)), (6, .dead), (1288, .dead), (1288, .row true 1 ([v1027].map vI)), (712, .row true 1 ((v1028 ++ [v1026]).map vI)), (3, .dead), (648, .dead), (648, .row true 1 ([v1026].map vI)), (7, .row true 3 (v1030.map eArc)), (6, .row true 1 (v1029.map vI)), (5, .row true 3 (([] : List Int).map vI)), (4, .row true 1 (([] : List Int).map vI)), (3, .row true 1 (v1028.map vI)), (2, .box [AI v1027, AI 0, .sl 6 0 v1029.length, .sl 7 0 v1030.length]), (1, .box [AI 0, AI 0, .sl 4 0 0, .sl 5 0 0]), (0, .box [AS v0.1, AL 1 (v0.2.1.map vI), AL 1 (v0.2.2.1.map vI), AI v0.2.2.2.1, AI v0.2.2.2.2.1, AL 1 (v0.2.2.2.2.2.map (eL 1 vI))])] (effT_app_l rfl (by simp) rfl rfl (by simp) rfl (by decide) g1038 rfl) ?_
        refine qp (.ptr 2 0 2) rfl ?_
        refine qf0 (.undef) [(2, .box [AI v1027, AI 0, .sl 1352 0 ((v1029 ++ [v1027]).length), .sl 7 0 v1030.length]), (1352, .row true 1 ((v1029 ++ [v1027]).map vI)), (6, .dead), (1288, .dead), (1288, .row true 1 ([v1027].map vI)), (712, .row true 1 ((v1028 ++ [v1026]).map vI)), (3, .dead), (648, .dead), (648, .row true 1 ([v1026].map vI)), (7, .row true 3 (v1030.map eArc)), (6, .row true 1 (v1029.map vI)), (5, .row true 3 (([] : List Int).map vI)), (4, .row true 1 (([] : List Int).map vI)), (3, .row true 1 (v1028.map vI)), (2, .box [AI v1027, AI 0, .sl 6 0 v1029.length, .sl 7 0 v1030.length]), (1, .box [AI 0, AI 0, .sl 4 0 0, .sl 5 0 0]), (0, .box [AS v0.1, AL 1 (v0.2.1.map vI), AL 1 (v0.2.2.1.map vI), AI v0.2.2.2.1, AI v0.2.2.2.2.1, AL 1 (v0.2.2.2.2.2.map (eL 1 vI))])] (by simp) ?_
        refine r_nil ?_
        refine thenQ_n ?_
        refine aw_ren (l' := [(2, AI v2), (3, .ptr 0 0 0), (6, .ptr 1 0 0), (8, .ptr 2 0 0), (9, .sl 3 0 ((v1028 ++ [v1026]).length)), (10, AI v1026)]) (L := [(7, .row true 3 (v1030.map eArc)), (6, .row true 1 ((v1029 ++ [v1027]).map vI)), (5, .row true 3 (([] : List Int).map vI)), (4, .row true 1 (([] : List Int).map vI)), (3, .row true 1 ((v1028 ++ [v1026]).map vI)), (2, .box [AI v1027, AI 0, .sl 6 0 (v1029 ++ [v1027]).length, .sl 7 0 v1030.length]), (1, .box [AI 0, AI 0, .sl 4 0 0, .sl 5 0 0]), (0, .box [AS v0.1, AL 1 (v0.2.1.map vI), AL 1 (v0.2.2.1.map vI), AI v0.2.2.2.1, AI v0.2.2.2.2.1, AL 1 (v0.2.2.2.2.2.map (eL 1 vI))])]) [2, 3, 6, 8, 9, 10] [(7, 7), (1352, 6), (5, 5), (4, 4), (712, 3), (2, 2), (1, 1), (0, 0)] 8 (by first | rfl | simp) (by first | rfl | simp) (by decide) (by decide) (by decide) ⟨_, rfl, hF⟩
       ·
        refine w_skip ?_
        refine thenQ_n ?_
        refine aw_ren (l' := [(2, AI v2), (3, .ptr 0 0 0), (6, .ptr 1 0 0), (8, .ptr 2 0 0), (9, .sl 3 0 ((v1028 ++ [v1026]).length)), (10, AI v1026)]) (L := [(7, .row true 3 (v1030.map eArc)), (6, .row true 1 (v1029.map vI)), (5, .row true 3 (([] : List Int).map vI)), (4, .row true 1 (([] : List Int).map vI)), (3, .row true 1 ((v1028 ++ [v1026]).map vI)), (2, .box [AI v1027, AI 0, .sl 6 0 v1029.length, .sl 7 0 v1030.length]), (1, .box [AI 0, AI 0, .sl 4 0 0, .sl 5 0 0]), (0, .box [AS v0.1, AL 1 (v0.2.1.map vI), AL 1 (v0.2.2.1.map vI), AI v0.2.2.2.1, AI v0.2.2.2.2.1, AL 1 (v0.2.2.2.2.2.map (eL 1 vI))])]) [2, 3, 6, 8, 9, 10] [(7, 7), (6, 6), (5, 5), (4, 4), (712, 3), (2, 2), (1, 1), (0, 0)] 8 (by first | rfl | simp) (by first | rfl | simp) (by decide) (by decide) (by decide) ⟨_, rfl, hF⟩
      ·
       rintro s' ⟨v1036, rfl, hF⟩
       unfold F_impl_GrammarOf_j3 at hF
       refine ws 8 648 ?_
       refine qp (.ptr 2 0 3) rfl (qp (.sl 7 0 v1030.length) rfl (qp (AI v1026) rfl (qp (.ptr 2 0 0) rfl (qp (AI v1027) rfl ?_))))
       refine qf (.agg [AI 0, AI v1026, AI v1027]) [(7, .row true 3 (v1030.map eArc)), (6, .row true 1 (v1036.map vI)), (5, .row true 3 (([] : List Int).map vI)), (4, .row true 1 (([] : List Int).map vI)), (3, .row true 1 ((v1028 ++ [v1026]).map vI)), (2, .box [AI v1027, AI 0, .sl 6 0 v1036.length, .sl 7 0 v1030.length]), (1, .box [AI 0, AI 0, .sl 4 0 0, .sl 5 0 0]), (0, .box [AS v0.1, AL 1 (v0.2.1.map vI), AL 1 (v0.2.2.1.map vI), AI v0.2.2.2.1, AI v0.2.2.2.2.1, AL 1 (v0.2.2.2.2.2.map (eL 1 vI))])] (by simp) ?_
       refine qf (.sl 392 0 (([(0, v1026, v1027)] : List TArc).length)) [(392, .row true 3 (([(0, v1026, v1027)] : List TArc).map eArc)), (7, .row true 3 (v1030.map eArc)), (6, .row true 1 (v1036.map vI)), (5, .row true 3 (([] : List Int).map vI)), (4, .row true 1 (([] : List Int).map vI)), (3, .row true 1 ((v1028 ++ [v1026]).map vI)), (2, .box [AI v1027, AI 0, .sl 6 0 v1036.length, .sl 7 0 v1030.length]), (1, .box [AI 0, AI 0, .sl 4 0 0, .sl 5 0 0]), (0, .box [AS v0.1, AL 1 (v0.2.1.map vI), AL 1 (v0.2.2.1.map vI), AI v0.2.2.2.1, AI v0.2.2.2.2.1, AL 1 (v0.2.2.2.2.2.map (eL 1 vI))])] (by simp [List.take_of_length_le]) ?_
       obtain ⟨g1039, hF⟩ := need_some hF
       refine qf (.sl 456 0 ((v1030 ++ ([(0, v1026, v1027)] : List TArc)).length)) [(456, .row true 3 ((v1030 ++ ([(0, v1026, v1027)] : List TArc)).map eArc)), (7, .dead), (392, .dead), (392, .row true 3 (([(0, v1026, v1027)] : List TArc).map eArc)), (7, .row true 3 (v1030.map eArc)), (6, .row true 1 (v1036.map vI)), (5, .row true 3 (([] : List Int).map vI)), (4, .row true 1 (([] : List Int).map vI)), (3, .row true 1 ((v1028 ++ [v1026]).map vI)), (2, .box [AI v1027, AI 0, .sl 6 0 v1036.length, .sl 7 0 v1030.length]), (1, .box [AI 0, AI 0, .sl 4 0 0, .sl 5 0 0]), (0, .box [AS v0.1, AL 1 (v0.2.1.map vI), AL 1 (v0.2.2.1.map vI), AI v0.2.2.2.1, AI v0.2.2.2.2.1, AL 1 (v0.2.2.2.2.2.map (eL 1 vI))])] (effT_app_l rfl (by simp) rfl rfl (by simp) rfl (by decide) g1039 rfl) ?_
       refine qp (.ptr 2 0 3) rfl ?_
       refine qf0 (.undef) [(2, .box [AI v1027, AI 0, .sl 6 0 v1036.length, .sl 456 0 ((v1030 ++ ([(0, v1026, v1027)] : List TArc)).length)]), (456, .row true 3 ((v1030 ++ ([(0, v1026, v1027)] : List TArc)).map eArc)), (7, .dead), (392, .dead), (392, .row true 3 (([(0, v1026, v1027)] : List TArc).map eArc)), (7, .row true 3 (v1030.map eArc)), (6, .row true 1 (v1036.map vI)), (5, .row true 3 (([] : List Int).map vI)), (4, .row true 1 (([] : List Int).map vI)), (3, .row true 1 ((v1028 ++ [v1026]).map vI)), (2, .box [AI v1027, AI 0, .sl 6 0 v1036.length, .sl 7 0 v1030.length]), (1, .box [AI 0, AI 0, .sl 4 0 0, .sl 5 0 0]), (0, .box [AS v0.1, AL 1 (v0.2.1.map vI), AL 1 (v0.2.2.1.map vI), AI v0.2.2.2.1, AI v0.2.2.2.2.1, AL 1 (v0.2.2.2.2.2.map (eL 1 vI))])] (by simp) ?_
       refine r_nil ?_
       refine w_reg 648 968 rfl rfl ?_
       refine qp (.ptr 2 0 0) rfl (qp (AI v1027) rfl (qp (AI (w64 (v1027 + 1))) rfl (qp (.ptr 2 0 0) rfl ?_)))
       refine qf0 (.undef) [(2, .box [AI (w64 (v1027 + 1)), AI 0, .sl 6 0 v1036.length, .sl 456 0 ((v1030 ++ ([(0, v1026, v1027)] : List TArc)).length)]), (2, .box [AI v1027, AI 0, .sl 6 0 v1036.length, .sl 456 0 ((v1030 ++ ([(0, v1026, v1027)] : List TArc)).length)]), (456, .row true 3 ((v1030 ++ ([(0, v1026, v1027)] : List TArc)).map eArc)), (7, .dead), (392, .dead), (392, .row true 3 (([(0, v1026, v1027)] : List TArc).map eArc)), (7, .row true 3 (v1030.map eArc)), (6, .row true 1 (v1036.map vI)), (5, .row true 3 (([] : List Int).map vI)), (4, .row true 1 (([] : List Int).map vI)), (3, .row true 1 ((v1028 ++ [v1026]).map vI)), (2, .box [AI v1027, AI 0, .sl 6 0 v1036.length, .sl 7 0 v1030.length]), (1, .box [AI 0, AI 0, .sl 4 0 0, .sl 5 0 0]), (0, .box [AS v0.1, AL 1 (v0.2.1.map vI), AL 1 (v0.2.2.1.map vI), AI v0.2.2.2.1, AI v0.2.2.2.2.1, AL 1 (v0.2.2.2.2.2.map (eL 1 vI))])] (by simp) ?_
       refine r_nil ?_
       refine blockQ_n ?_
       refine thenQ_n ?_
       refine w_reg 968 1160 rfl rfl ?_
       refine qp (AI v1026) rfl (qp (AI (w64 (v1026 + 1))) rfl (qp (AI (w64 (v1026 + 1))) rfl ?_))
       refine r_nil ?_
       refine thenQ_n ?_
       refine ar (l' := [(2, AI v2), (3, .ptr 0 0 0), (6, .ptr 1 0 0), (8, .ptr 2 0 0), (9, .sl 3 0 (v1028 ++ [v1026]).length), (10, AI (w64 (v1026 + 1)))]) (L := [(7, .row true 3 ((v1030 ++ ([(0, v1026, v1027)] : List TArc)).map eArc)), (6, .row true 1 (v1036.map vI)), (5, .row true 3 (([] : List Int).map vI)), (4, .row true 1 (([] : List Int).map vI)), (3, .row true 1 ((v1028 ++ [v1026]).map vI)), (2, .box [AI (w64 (v1027 + 1)), AI 0, .sl 6 0 v1036.length, .sl 7 0 (v1030 ++ ([(0, v1026, v1027)] : List TArc)).length]), (1, .box [AI 0, AI 0, .sl 4 0 0, .sl 5 0 0]), (0, .box [AS v0.1, AL 1 (v0.2.1.map vI), AL 1 (v0.2.2.1.map vI), AI v0.2.2.2.1, AI v0.2.2.2.2.1, AL 1 (v0.2.2.2.2.2.map (eL 1 vI))])]) [2, 3, 6, 8, 9, 10] [(456, 7), (6, 6), (5, 5), (4, 4), (3, 3), (2, 2), (1, 1), (0, 0)] 8 ⟨_, by rfl, hF⟩
    ·
     refine w_exit ?_
     refine thenQ_e ?_
     refine thenQ_e ?_
     refine blockQ_e ?_
     refine thenQ_n ?_
     refine w_seq ?_
     refine ws 200 392 ?_
     refine qp (.sl 3 0 v1028.length) rfl (qp (AI (v1028.length : Int)) rfl (qp (AI 0) rfl ?_))
     refine r_nil ?_
     refine w_block ?_
     refine wr (l' := [(3, .ptr 0 0 0), (6, .ptr 1 0 0), (8, .ptr 2 0 0), (9, .sl 3 0 v1028.length), (70, .sl 3 0 v1028.length), (71, AI (v1028.length : Int)), (72, AI 0)]) (L := [(7, .row true 3 (v1030.map eArc)), (6, .row true 1 (v1029.map vI)), (5, .row true 3 (([] : List Int).map vI)), (4, .row true 1 (([] : List Int).map vI)), (3, .row true 1 (v1028.map vI)), (2, .box [AI v1027, AI 0, .sl 6 0 v1029.length, .sl 7 0 v1030.length]), (1, .box [AI 0, AI 0, .sl 4 0 0, .sl 5 0 0]), (0, .box [AS v0.1, AL 1 (v0.2.1.map vI), AL 1 (v0.2.2.1.map vI), AI v0.2.2.2.1, AI v0.2.2.2.2.1, AL 1 (v0.2.2.2.2.2.map (eL 1 vI))])]) [3, 6, 8, 9, 70, 71, 72] [(7, 7), (6, 6), (5, 5), (4, 4), (3, 3), (2, 2), (1, 1), (0, 0)] 8 ?_
     refine w_loopF (F_impl_GrammarOf_l6 v0 v1027 v1028 v1029) (fun s : Int × (List TArc) => mkS [(3, .ptr 0 0 0), (6, .ptr 1 0 0), (8, .ptr 2 0 0), (9, .sl 3 0 v1028.length), (70, .sl 3 0 v1028.length), (71, AI (v1028.length : Int)), (72, AI s.1)] (fo [(7, .row true 3 (s.2.map eArc)), (6, .row true 1 (v1029.map vI)), (5, .row true 3 (([] : List Int).map vI)), (4, .row true 1 (([] : List Int).map vI)), (3, .row true 1 (v1028.map vI)), (2, .box [AI v1027, AI 0, .sl 6 0 v1029.length, .sl 7 0 s.2.length]), (1, .box [AI 0, AI 0, .sl 4 0 0, .sl 5 0 0]), (0, .box [AS v0.1, AL 1 (v0.2.1.map vI), AL 1 (v0.2.2.1.map vI), AI v0.2.2.2.1, AI v0.2.2.2.2.1, AL 1 (v0.2.2.2.2.2.map (eL 1 vI))])]) 8) hF ?_
     rintro k8 ⟨v1070, v1071⟩ hF
     rw [F_impl_GrammarOf_l6] at hF
     try dsimp only
     refine ws 8 72 ?_
     refine qp (AB (decide (v1070 < (v1028.length : Int)))) rfl ?_
     refine r_nil ?_
     refine w_seq ?_
     refine cF hF (fun hF => ?_) fun hF => ?_
     ·
      refine w_skip ?_
      refine thenQ_n ?_
      refine w_seq ?_
      refine w_block ?_
      refine ws 72 392 ?_
      refine qp (AI v1070) rfl ?_
      obtain ⟨v1072, e1072, hF⟩ := bind_get hF
      refine qp (.ptr 3 v1070.toNat 0) (ev_iad_r rfl (by simp) rfl rfl e1072) (qp (AI v1072) (ev_ld_r rfl rfl (ix_some e1072).2 rfl rfl) (qp (AI v1070) rfl (qp (AI v1072) rfl ?_)))
      refine r_nil ?_
      refine ws 392 584 ?_
      refine qp (.sl 3 0 v1028.length) rfl (qp (AI (v1028.length : Int)) rfl (qp (AI 0) rfl ?_))
      refine r_nil ?_
      refine w_block ?_
      refine wr (l' := [(3, .ptr 0 0 0), (6, .ptr 1 0 0), (8, .ptr 2 0 0), (9, .sl 3 0 v1028.length), (11, AI v1070), (12, AI v1072), (70, .sl 3 0 v1028.length), (71, AI (v1028.length : Int)), (72, AI v1070), (77, .sl 3 0 v1028.length), (78, AI (v1028.length : Int)), (79, AI 0)]) (L := [(7, .row true 3 (v1071.map eArc)), (6, .row true 1 (v1029.map vI)), (5, .row true 3 (([] : List Int).map vI)), (4, .row true 1 (([] : List Int).map vI)), (3, .row true 1 (v1028.map vI)), (2, .box [AI v1027, AI 0, .sl 6 0 v1029.length, .sl 7 0 v1071.length]), (1, .box [AI 0, AI 0, .sl 4 0 0, .sl 5 0 0]), (0, .box [AS v0.1, AL 1 (v0.2.1.map vI), AL 1 (v0.2.2.1.map vI), AI v0.2.2.2.1, AI v0.2.2.2.2.1, AL 1 (v0.2.2.2.2.2.map (eL 1 vI))])]) [3, 6, 8, 9, 11, 12, 70, 71, 72, 77, 78, 79] [(7, 7), (6, 6), (5, 5), (4, 4), (3, 3), (2, 2), (1, 1), (0, 0)] 8 ?_
      refine w_loopF (F_impl_GrammarOf_l7 v0 v1028 v1070 v1072 k8) (fun s : Int × (List TArc) => mkS [(3, .ptr 0 0 0), (6, .ptr 1 0 0), (8, .ptr 2 0 0), (9, .sl 3 0 v1028.length), (11, AI v1070), (12, AI v1072), (70, .sl 3 0 v1028.length), (71, AI (v1028.length : Int)), (72, AI v1070), (77, .sl 3 0 v1028.length), (78, AI (v1028.length : Int)), (79, AI s.1)] (fo [(7, .row true 3 (s.2.map eArc)), (6, .row true 1 (v1029.map vI)), (5, .row true 3 (([] : List Int).map vI)), (4, .row true 1 (([] : List Int).map vI)), (3, .row true 1 (v1028.map vI)), (2, .box [AI v1027, AI 0, .sl 6 0 v1029.length, .sl 7 0 s.2.length]), (1, .box [AI 0, AI 0, .sl 4 0 0, .sl 5 0 0]), (0, .box [AS v0.1, AL 1 (v0.2.1.map vI), AL 1 (v0.2.2.1.map vI), AI v0.2.2.2.1, AI v0.2.2.2.2.1, AL 1 (v0.2.2.2.2.2.map (eL 1 vI))])]) 8) hF ?_
      rintro k9 ⟨v1081, v1082⟩ hF
      rw [F_impl_GrammarOf_l7] at hF
      try dsimp only
      refine ws 8 72 ?_
      refine qp (AB (decide (v1081 < (v1028.length : Int)))) rfl ?_
      refine r_nil ?_
      refine w_seq ?_
      refine cF hF (fun hF => ?_) fun hF => ?_
      ·
       refine w_skip ?_
       refine thenQ_n ?_
       refine w_seq ?_
       refine w_block ?_
       refine ws 72 392 ?_
       refine qp (AI v1081) rfl ?_
       obtain ⟨v1083, e1083, hF⟩ := bind_get hF
       refine qp (.ptr 3 v1081.toNat 0) (ev_iad_r rfl (by simp) rfl rfl e1083) (qp (AI v1083) (ev_ld_r rfl rfl (ix_some e1083).2 rfl rfl) (qp (AI v1081) rfl (qp (AI v1083) rfl ?_)))
       refine r_nil ?_
       refine ws 392 712 ?_
       refine qp (.agg [AS v0.1, AL 1 (v0.2.1.map vI), AL 1 (v0.2.2.1.map vI), AI v0.2.2.2.1, AI v0.2.2.2.2.1, AL 1 (v0.2.2.2.2.2.map (eL 1 vI))]) rfl (qp (AI v1072) rfl (qp (AI v1083) rfl ?_))
       obtain ⟨v1084, e1084, hF⟩ := bind_get hF
       refine qc (AI v1084) [(7, .row true 3 (v1082.map eArc)), (6, .row true 1 (v1029.map vI)), (5, .row true 3 (([] : List Int).map vI)), (4, .row true 1 (([] : List Int).map vI)), (3, .row true 1 (v1028.map vI)), (2, .box [AI v1027, AI 0, .sl 6 0 v1029.length, .sl 7 0 v1082.length]), (1, .box [AI 0, AI 0, .sl 4 0 0, .sl 5 0 0]), (0, .box [AS v0.1, AL 1 (v0.2.1.map vI), AL 1 (v0.2.2.1.map vI), AI v0.2.2.2.1, AI v0.2.2.2.2.1, AL 1 (v0.2.2.2.2.2.map (eL 1 vI))])] false (con_impl_Raga_reason e1084) c157_ok (by first | rfl | simp) rfl ?_
       refine qp (AB (decide (v1084 = (0 : Int)))) rfl ?_
       refine r_nil ?_
       refine cF hF (fun hF => ?_) fun hF => ?_
       ·
        refine w_reg 712 1480 rfl rfl ?_
        refine qp (.ptr 2 0 3) rfl (qp (.sl 7 0 v1082.length) rfl (qp (AI v1070) rfl (qp (AI (w64 (v1070 + 1))) rfl (qp (AI v1083) rfl (qp (AI v1081) rfl (qp (AI (w64 (v1081 + 1))) rfl ?_))))))
        refine qf (.agg [AI (w64 (v1070 + 1)), AI v1083, AI (w64 (v1081 + 1))]) [(7, .row true 3 (v1082.map eArc)), (6, .row true 1 (v1029.map vI)), (5, .row true 3 (([] : List Int).map vI)), (4, .row true 1 (([] : List Int).map vI)), (3, .row true 1 (v1028.map vI)), (2, .box [AI v1027, AI 0, .sl 6 0 v1029.length, .sl 7 0 v1082.length]), (1, .box [AI 0, AI 0, .sl 4 0 0, .sl 5 0 0]), (0, .box [AS v0.1, AL 1 (v0.2.1.map vI), AL 1 (v0.2.2.1.map vI), AI v0.2.2.2.1, AI v0.2.2.2.2.1, AL 1 (v0.2.2.2.2.2.map (eL 1 vI))])] (by simp) ?_
        refine qf (.sl 1224 0 (([(w64 (v1070 + 1), v1083, w64 (v1081 + 1))] : List TArc).length)) [(1224, .row true 3 (([(w64 (v1070 + 1), v1083, w64 (v1081 + 1))] : List TArc).map eArc)), (7, .row true 3 (v1082.map eArc)), (6, .row true 1 (v1029.map vI)), (5, .row true 3 (([] : List Int).map vI)), (4, .row true 1 (([] : List Int).map vI)), (3, .row true 1 (v1028.map vI)), (2, .box [AI v1027, AI 0, .sl 6 0 v1029.length, .sl 7 0 v1082.length]), (1, .box [AI 0, AI 0, .sl 4 0 0, .sl 5 0 0]), (0, .box [AS v0.1, AL 1 (v0.2.1.map vI), AL 1 (v0.2.2.1.map vI), AI v0.2.2.2.1, AI v0.2.2.2.2.1, AL 1 (v0.2.2.2.2.2.map (eL 1 vI))])] (by simp [List.take_of_length_le]) ?_
        obtain ⟨g1085, hF⟩ := need_some hF
        refine qf (.sl 1288 0 ((v1082 ++ ([(w64 (v1070 + 1), v1083, w64 (v1081 + 1))] : List TArc)).length)) [(1288, .row true 3 ((v1082 ++ ([(w64 (v1070 + 1), v1083, w64 (v1081 + 1))] : List TArc)).map eArc)), (7, .dead), (1224, .dead), (1224, .row true 3 (([(w64 (v1070 + 1), v1083, w64 (v1081 + 1))] : List TArc).map eArc)), (7, .row true 3 (v1082.map eArc)), (6, .row true 1 (v1029.map vI)), (5, .row true 3 (([] : List Int).map vI)), (4, .row true 1 (([] : List Int).map vI)), (3, .row true 1 (v1028.map vI)), (2, .box [AI v1027, AI 0, .sl 6 0 v1029.length, .sl 7 0 v1082.length]), (1, .box [AI 0, AI 0, .sl 4 0 0, .sl 5 0 0]), (0, .box [AS v0.1, AL 1 (v0.2.1.map vI), AL 1 (v0.2.2.1.map vI), AI v0.2.2.2.1, AI v0.2.2.2.2.1, AL 1 (v0.2.2.2.2.2.map (eL 1 vI))])] (effT_app_l rfl (by simp) rfl rfl (by simp) rfl (by decide) g1085 rfl) ?_
        refine qp (.ptr 2 0 3) rfl ?_
        refine qf0 (.undef) [(2, .box [AI v1027, AI 0, .sl 6 0 v1029.length, .sl 1288 0 ((v1082 ++ ([(w64 (v1070 + 1), v1083, w64 (v1081 + 1))] : List TArc)).length)]), (1288, .row true 3 ((v1082 ++ ([(w64 (v1070 + 1), v1083, w64 (v1081 + 1))] : List TArc)).map eArc)), (7, .dead), (1224, .dead), (1224, .row true 3 (([(w64 (v1070 + 1), v1083, w64 (v1081 + 1))] : List TArc).map eArc)), (7, .row true 3 (v1082.map eArc)), (6, .row true 1 (v1029.map vI)), (5, .row true 3 (([] : List Int).map vI)), (4, .row true 1 (([] : List Int).map vI)), (3, .row true 1 (v1028.map vI)), (2, .box [AI v1027, AI 0, .sl 6 0 v1029.length, .sl 7 0 v1082.length]), (1, .box [AI 0, AI 0, .sl 4 0 0, .sl 5 0 0]), (0, .box [AS v0.1, AL 1 (v0.2.1.map vI), AL 1 (v0.2.2.1.map vI), AI v0.2.2.2.1, AI v0.2.2.2.2.1, AL 1 (v0.2.2.2.2.2.map (eL 1 vI))])] (by simp) ?_
        refine r_nil ?_
        refine blockQ_n ?_
        refine thenQ_n ?_
        refine w_reg 1480 1608 rfl rfl ?_
        refine qp (AI (w64 (v1081 + 1))) rfl (qp (AI (w64 (v1081 + 1))) rfl ?_)
        refine r_nil ?_
        refine thenQ_n ?_
        refine ar (l' := [(3, .ptr 0 0 0), (6, .ptr 1 0 0), (8, .ptr 2 0 0), (9, .sl 3 0 v1028.length), (11, AI v1070), (12, AI v1072), (70, .sl 3 0 v1028.length), (71, AI (v1028.length : Int)), (72, AI v1070), (77, .sl 3 0 v1028.length), (78, AI (v1028.length : Int)), (79, AI (w64 (v1081 + 1)))]) (L := [(7, .row true 3 ((v1082 ++ ([(w64 (v1070 + 1), v1083, w64 (v1081 + 1))] : List TArc)).map eArc)), (6, .row true 1 (v1029.map vI)), (5, .row true 3 (([] : List Int).map vI)), (4, .row true 1 (([] : List Int).map vI)), (3, .row true 1 (v1028.map vI)), (2, .box [AI v1027, AI 0, .sl 6 0 v1029.length, .sl 7 0 (v1082 ++ ([(w64 (v1070 + 1), v1083, w64 (v1081 + 1))] : List TArc)).length]), (1, .box [AI 0, AI 0, .sl 4 0 0, .sl 5 0 0]), (0, .box [AS v0.1, AL 1 (v0.2.1.map vI), AL 1 (v0.2.2.1.map vI), AI v0.2.2.2.1, AI v0.2.2.2.2.1, AL 1 (v0.2.2.2.2.2.map (eL 1 vI))])]) [3, 6, 8, 9, 11, 12, 70, 71, 72, 77, 78, 79] [(1288, 7), (6, 6), (5, 5), (4, 4), (3, 3), (2, 2), (1, 1), (0, 0)] 8 ⟨_, by rfl, hF⟩
       ·
        refine w_skip ?_
        refine blockQ_n ?_
        refine thenQ_n ?_
        refine w_reg 712 840 rfl rfl ?_
        refine qp (AI (w64 (v1081 + 1))) rfl (qp (AI (w64 (v1081 + 1))) rfl ?_)
        refine r_nil ?_
        refine thenQ_n ?_
        refine ar (l' := [(3, .ptr 0 0 0), (6, .ptr 1 0 0), (8, .ptr 2 0 0), (9, .sl 3 0 v1028.length), (11, AI v1070), (12, AI v1072), (70, .sl 3 0 v1028.length), (71, AI (v1028.length : Int)), (72, AI v1070), (77, .sl 3 0 v1028.length), (78, AI (v1028.length : Int)), (79, AI (w64 (v1081 + 1)))]) (L := [(7, .row true 3 (v1082.map eArc)), (6, .row true 1 (v1029.map vI)), (5, .row true 3 (([] : List Int).map vI)), (4, .row true 1 (([] : List Int).map vI)), (3, .row true 1 (v1028.map vI)), (2, .box [AI v1027, AI 0, .sl 6 0 v1029.length, .sl 7 0 v1082.length]), (1, .box [AI 0, AI 0, .sl 4 0 0, .sl 5 0 0]), (0, .box [AS v0.1, AL 1 (v0.2.1.map vI), AL 1 (v0.2.2.1.map vI), AI v0.2.2.2.1, AI v0.2.2.2.2.1, AL 1 (v0.2.2.2.2.2.map (eL 1 vI))])]) [3, 6, 8, 9, 11, 12, 70, 71, 72, 77, 78, 79] [(7, 7), (6, 6), (5, 5), (4, 4), (3, 3), (2, 2), (1, 1), (0, 0)] 8 ⟨_, by rfl, hF⟩
      ·
       refine w_exit ?_
       refine thenQ_e ?_
       refine thenQ_e ?_
       refine blockQ_e ?_
       refine blockQ_n ?_
       refine thenQ_n ?_
       refine w_reg 72 200 rfl rfl ?_
       refine qp (AI (w64 (v1070 + 1))) rfl (qp (AI (w64 (v1070 + 1))) rfl ?_)
       refine r_nil ?_
       refine thenQ_n ?_
       refine ar (l' := [(3, .ptr 0 0 0), (6, .ptr 1 0 0), (8, .ptr 2 0 0), (9, .sl 3 0 v1028.length), (70, .sl 3 0 v1028.length), (71, AI (v1028.length : Int)), (72, AI (w64 (v1070 + 1)))]) (L := [(7, .row true 3 (v1082.map eArc)), (6, .row true 1 (v1029.map vI)), (5, .row true 3 (([] : List Int).map vI)), (4, .row true 1 (([] : List Int).map vI)), (3, .row true 1 (v1028.map vI)), (2, .box [AI v1027, AI 0, .sl 6 0 v1029.length, .sl 7 0 v1082.length]), (1, .box [AI 0, AI 0, .sl 4 0 0, .sl 5 0 0]), (0, .box [AS v0.1, AL 1 (v0.2.1.map vI), AL 1 (v0.2.2.1.map vI), AI v0.2.2.2.1, AI v0.2.2.2.2.1, AL 1 (v0.2.2.2.2.2.map (eL 1 vI))])]) [3, 6, 8, 9, 70, 71, 72] [(7, 7), (6, 6), (5, 5), (4, 4), (3, 3), (2, 2), (1, 1), (0, 0)] 8 ⟨_, by rfl, hF⟩
     ·
      refine w_exit ?_
      refine thenQ_e ?_
      refine thenQ_e ?_
      refine blockQ_e ?_
      refine thenQ_n ?_
      refine w_seq ?_
      refine ws 72 648 ?_
      refine qp (.ptr 2 0 0) rfl (qp (AI v1027) rfl (qp (AB (decide ((32 : Int) < v1027))) rfl (qp (AB (decide ((32 : Int) < v1027))) rfl ?_)))
      refine q_case 105 hF rfl (fun hF => ?_) (fun hF => ?_)
      ·
       refine qn rfl (qn rfl (qn rfl (qn rfl (qp (AB true) rfl ?_))))
       refine r_nil ?_
       refine w_true rfl ?_
       refine ws 648 840 ?_
       refine qf (.agg [AI 0, AI 0, .sl 648 0 0, .sl 649 0 0]) [(649, .row true 3 (([] : List TArc).map eArc)), (648, .row true 1 (([] : List Int).map vI)), (7, .row true 3 (v1071.map eArc)), (6, .row true 1 (v1029.map vI)), (5, .row true 3 (([] : List Int).map vI)), (4, .row true 1 (([] : List Int).map vI)), (3, .row true 1 (v1028.map vI)), (2, .box [AI v1027, AI 0, .sl 6 0 v1029.length, .sl 7 0 v1071.length]), (1, .box [AI 0, AI 0, .sl 4 0 0, .sl 5 0 0]), (0, .box [AS v0.1, AL 1 (v0.2.1.map vI), AL 1 (v0.2.2.1.map vI), AI v0.2.2.2.1, AI v0.2.2.2.2.1, AL 1 (v0.2.2.2.2.2.map (eL 1 vI))])] (by simp) ?_
       refine qf0 (.undef) [(1, .box [AI 0, AI 0, .sl 648 0 0, .sl 649 0 0]), (649, .row true 3 (([] : List TArc).map eArc)), (648, .row true 1 (([] : List Int).map vI)), (7, .row true 3 (v1071.map eArc)), (6, .row true 1 (v1029.map vI)), (5, .row true 3 (([] : List Int).map vI)), (4, .row true 1 (([] : List Int).map vI)), (3, .row true 1 (v1028.map vI)), (2, .box [AI v1027, AI 0, .sl 6 0 v1029.length, .sl 7 0 v1071.length]), (1, .box [AI 0, AI 0, .sl 4 0 0, .sl 5 0 0]), (0, .box [AS v0.1, AL 1 (v0.2.1.map vI), AL 1 (v0.2.2.1.map vI), AI v0.2.2.2.1, AI v0.2.2.2.2.1, AL 1 (v0.2.2.2.2.2.map (eL 1 vI))])] (by simp) ?_
       refine qp (AI 5) rfl ?_
       refine r_nil ?_
       refine w_ret ?_
       refine thenQ_r ?_
       cases hF
       exact eR
      ·
       refine qg (.ptr 2 0 3) rfl rfl (qg (.sl 7 0 v1071.length) rfl rfl (qg (AI (v1071.length : Int)) rfl rfl (qg (AB (decide ((256 : Int) < (v1071.length : Int)))) rfl rfl (qp (AB (decide ((256 : Int) < (v1071.length : Int)))) rfl ?_))))
       refine r_nil ?_
       refine cF hF (fun hF => ?_) fun hF => ?_
       ·
        refine ws 648 840 ?_
        refine qf (.agg [AI 0, AI 0, .sl 648 0 0, .sl 649 0 0]) [(649, .row true 3 (([] : List TArc).map eArc)), (648, .row true 1 (([] : List Int).map vI)), (7, .row true 3 (v1071.map eArc)), (6, .row true 1 (v1029.map vI)), (5, .row true 3 (([] : List Int).map vI)), (4, .row true 1 (([] : List Int).map vI)), (3, .row true 1 (v1028.map vI)), (2, .box [AI v1027, AI 0, .sl 6 0 v1029.length, .sl 7 0 v1071.length]), (1, .box [AI 0, AI 0, .sl 4 0 0, .sl 5 0 0]), (0, .box [AS v0.1, AL 1 (v0.2.1.map vI), AL 1 (v0.2.2.1.map vI), AI v0.2.2.2.1, AI v0.2.2.2.2.1, AL 1 (v0.2.2.2.2.2.map (eL 1 vI))])] (by simp) ?_
        refine qf0 (.undef) [(1, .box [AI 0, AI 0, .sl 648 0 0, .sl 649 0 0]), (649, .row true 3 (([] : List TArc).map eArc)), (648, .row true 1 (([] : List Int).map vI)), (7, .row true 3 (v1071.map eArc)), (6, .row true 1 (v1029.map vI)), (5, .row true 3 (([] : List Int).map vI)), (4, .row true 1 (([] : List Int).map vI)), (3, .row true 1 (v1028.map vI)), (2, .box [AI v1027, AI 0, .sl 6 0 v1029.length, .sl 7 0 v1071.length]), (1, .box [AI 0, AI 0, .sl 4 0 0, .sl 5 0 0]), (0, .box [AS v0.1, AL 1 (v0.2.1.map vI), AL 1 (v0.2.2.1.map vI), AI v0.2.2.2.1, AI v0.2.2.2.2.1, AL 1 (v0.2.2.2.2.2.map (eL 1 vI))])] (by simp) ?_
        refine qp (AI 5) rfl ?_
        refine r_nil ?_
        refine w_ret ?_
        refine thenQ_r ?_
        cases hF
        exact eR
       ·
        refine w_skip ?_
        refine thenQ_n ?_
        refine ws 648 840 ?_
        refine qp (.agg [AI v1027, AI 0, .sl 6 0 v1029.length, .sl 7 0 v1071.length]) rfl ?_
        refine qf0 (.undef) [(1, .box [AI v1027, AI 0, .sl 6 0 v1029.length, .sl 7 0 v1071.length]), (7, .row true 3 (v1071.map eArc)), (6, .row true 1 (v1029.map vI)), (5, .row true 3 (([] : List Int).map vI)), (4, .row true 1 (([] : List Int).map vI)), (3, .row true 1 (v1028.map vI)), (2, .box [AI v1027, AI 0, .sl 6 0 v1029.length, .sl 7 0 v1071.length]), (1, .box [AI 0, AI 0, .sl 4 0 0, .sl 5 0 0]), (0, .box [AS v0.1, AL 1 (v0.2.1.map vI), AL 1 (v0.2.2.1.map vI), AI v0.2.2.2.1, AI v0.2.2.2.2.1, AL 1 (v0.2.2.2.2.2.map (eL 1 vI))])] (by simp) ?_
        refine qp (AI 0) rfl ?_
        refine r_nil ?_
        refine w_ret ?_
        cases hF
        exact eR

def c158 : MC := (.seq (.reg [rg 2 (.p true (.mv (.c (.bool false))))]) (.seq (.reg [mvt 3 0, rg 4 (.call true 103 [(.t 3), (.c (.int .i64 1)), (.c (.int .i64 64))]), mvt 2 4]) .ret))
theorem c158_is : compFn Try.prog 158 = some (c158, [(.tmp 2)]) := by kernel_rfl
theorem c158_ok : okFn Try.prog 158 = true := by kernel_rfl

noncomputable def F_impl_lengthOk (v0 : Int) : Option (Bool) :=
 ((F_impl_within v0 1 64).bind fun v1000 => some v1000)
@[simp] def res_impl_lengthOk (r : Bool) : RV := .one (.one (.val (.bool r)))
theorem con_impl_lengthOk {v0 : Int} {r : Bool} (hF : F_impl_lengthOk v0 = some r) : Con Try.prog 158 [.int .i64 v0] (res_impl_lengthOk r) := by
 unfold F_impl_lengthOk at hF
 refine con_of c158_is fun N => ?_
 refine ws 0 64 ?_
 refine qp (AB false) rfl ?_
 refine r_nil ?_
 refine ws 64 256 ?_
 refine qp (AI v0) rfl ?_
 obtain ⟨v1000, e1000, hF⟩ := bind_get hF
 refine qc (AB v1000) [] false (con_impl_within e1000) c103_ok (by first | rfl | simp) rfl ?_
 refine qp (AB v1000) rfl ?_
 refine r_nil ?_
 refine w_ret ?_
 cases hF
 exact eR

def c50 : MC := (.seq (.reg [rg 2 (.p true (.mv (.c (.bool false))))]) (.seq (.seq (.reg [mvt 5 0, rg 6 (.p true (.len (.t 5))), rg 7 (.p true (.bin .gtr (.t 6) (.c (.int .i64 48))))]) (.cond (.t 7) (.seq (.reg [rg 2 (.p true (.mv (.c (.bool false))))]) .ret) .skip)) (.seq (.seq (.reg [mvt 8 0, rg 9 (.p true (.len (.t 8))), rg 10 (.p true (.mv (.c (.int .i64 0))))]) (.block 0 (.loop (.seq (.reg [rg 11 (.p true (.bin .lss (.t 10) (.t 9)))]) (.seq (.cond (.t 11) .skip (.exit 0)) (.seq (.block 1 (.seq (.reg [rg 12 (.p true (.iad (.t 8) (.t 10) 2)), rg 13 (.p true (.ld (.t 12) 2 true)), rg 4 (.f (.alloc [((.int .i64 0), (0, false)), ((.int .i64 0), (0, false))])), ⟨none, none, (.f (.st (.t 4) (.t 13) 2))⟩]) (.seq (.reg [rg 14 (.p true (.fad (.t 4) 0)), rg 15 (.p true (.ld (.t 14) 1 false)), rg 16 (.call true 154 [(.t 15)]), rg 17 (.p true (.not (.t 16))), mvt 18 17, ⟨(some 19), (some (18, false)), (.p true (.fad (.t 4) 1))⟩, ⟨(some 20), (some (18, false)), (.p true (.ld (.t 19) 1 false))⟩, ⟨(some 21), (some (18, false)), (.call true 158 [(.t 20)])⟩, ⟨(some 22), (some (18, false)), (.p true (.not (.t 21)))⟩, rg 23 (.p true (.pick (.t 18) (.c (.bool true)) (.t 22)))]) (.cond (.t 23) (.seq (.reg [rg 2 (.p true (.mv (.c (.bool false))))]) .ret) .skip)))) (.reg [rg 24 (.p true (.bin .add (.t 10) (.c (.int .i64 1)))), mvt 10 24]))))))) (.seq (.reg [rg 2 (.p true (.mv (.c (.bool true))))]) .ret))))
theorem c50_is : compFn Try.prog 50 = some (c50, [(.tmp 2)]) := by kernel_rfl
theorem c50_ok : okFn Try.prog 50 = true := by kernel_rfl

noncomputable def F_impl_ValidMelody_l0 (v0 : List TNote) (k0 : Int → Option (Bool)) : Int → Option (Bool)
 | v8 => (bif (decide (v8 < (v0.length : Int))) then ((ix v0 v8).bind fun v1000 => ((F_impl_pitchOk v1000.1).bind fun v1001 => (bif (!v1001) then some false
 else ((F_impl_lengthOk v1000.2).bind fun v1002 => (bif (!v1002) then some false
 else k0 (w64 (v8 + 1)))))))
 else some true)
noncomputable def F_impl_ValidMelody (v0 : List TNote) : Option (Bool) :=
 (bif (decide ((48 : Int) < (v0.length : Int))) then some false
 else loop (F_impl_ValidMelody_l0 v0) 0)
@[simp] def res_impl_ValidMelody (r : Bool) : RV := .one (.one (.val (.bool r)))
theorem con_impl_ValidMelody {v0 : List TNote} {r : Bool} (hF : F_impl_ValidMelody v0 = some r) : Con Try.prog 50 [.sl 2 (v0.map eNote)] (res_impl_ValidMelody r) := by
 unfold F_impl_ValidMelody at hF
 refine con_of c50_is fun N => ?_
 refine ws 0 64 ?_
 refine qp (AB false) rfl ?_
 refine r_nil ?_
 refine w_seq ?_
 refine ws 64 256 ?_
 refine qp (AL 2 (v0.map eNote)) rfl (qp (AI (v0.length : Int)) (ev_len_n rfl) (qp (AB (decide ((48 : Int) < (v0.length : Int)))) rfl ?_))
 refine r_nil ?_
 refine cF hF (fun hF => ?_) fun hF => ?_
 ·
  refine ws 256 320 ?_
  refine qp (AB false) rfl ?_
  refine r_nil ?_
  refine w_ret ?_
  refine thenQ_r ?_
  cases hF
  exact eR
 ·
  refine w_skip ?_
  refine thenQ_n ?_
  refine w_seq ?_
  refine ws 256 448 ?_
  refine qp (AL 2 (v0.map eNote)) rfl (qp (AI (v0.length : Int)) (ev_len_n rfl) (qp (AI 0) rfl ?_))
  refine r_nil ?_
  refine w_block ?_
  refine wr (l' := [(8, AL 2 (v0.map eNote)), (9, AI (v0.length : Int)), (10, AI 0)]) (L := []) [8, 9, 10] [] 1 ?_
  refine w_loopF (F_impl_ValidMelody_l0 v0) (fun s : Int => mkS [(8, AL 2 (v0.map eNote)), (9, AI (v0.length : Int)), (10, AI s)] (fo []) 1) hF ?_
  rintro k0 v8 hF
  rw [F_impl_ValidMelody_l0] at hF
  try dsimp only
  refine ws 1 65 ?_
  refine qp (AB (decide (v8 < (v0.length : Int)))) rfl ?_
  refine r_nil ?_
  refine w_seq ?_
  refine cF hF (fun hF => ?_) fun hF => ?_
  ·
   refine w_skip ?_
   refine thenQ_n ?_
   refine w_seq ?_
   refine w_block ?_
   refine ws 65 321 ?_
   obtain ⟨v1000, e1000, hF⟩ := bind_get hF
   refine qp (.val none (.ptr [.int .i64 v1000.1, .int .i64 v1000.2])) (ev_iad_n rfl rfl e1000 rfl) (qp (.val none (eNote v1000)) rfl ?_)
   refine qf (.ptr 193 0 0) [(193, .box [AI 0, AI 0])] (by simp) ?_
   refine qf0 (.undef) [(193, .box [AI v1000.1, AI v1000.2]), (193, .box [AI 0, AI 0])] (by simp) ?_
   refine r_nil ?_
   refine ws 321 961 ?_
   refine qp (.ptr 193 0 0) rfl (qp (AI v1000.1) rfl ?_)
   obtain ⟨v1001, e1001, hF⟩ := bind_get hF
   refine qc (AB v1001) [(193, .box [AI v1000.1, AI v1000.2]), (193, .box [AI 0, AI 0])] false (con_impl_pitchOk e1001) c154_ok (by first | rfl | simp) rfl ?_
   refine qp (AB (!v1001)) rfl (qp (AB (!v1001)) rfl ?_)
   refine q_case 18 hF rfl (fun hF => ?_) (fun hF => ?_)
   ·
    refine qn rfl (qn rfl (qn rfl (qn rfl (qp (AB true) rfl ?_))))
    refine r_nil ?_
    refine w_true rfl ?_
    refine ws 961 1025 ?_
    refine qp (AB false) rfl ?_
    refine r_nil ?_
    refine w_ret ?_
    refine blockQ_r ?_
    refine thenQ_r ?_
    refine thenQ_r ?_
    refine blockQ_r ?_
    refine thenQ_r ?_
    cases hF
    exact eR
   ·
    refine qg (.ptr 193 0 1) rfl rfl (qg (AI v1000.2) rfl rfl ?_)
    obtain ⟨v1002, e1002, hF⟩ := bind_get hF
    refine qcg (AB v1002) [(193, .box [AI v1000.1, AI v1000.2]), (193, .box [AI 0, AI 0])] false rfl (con_impl_lengthOk e1002) c158_ok (by first | rfl | simp) rfl ?_
    refine qg (AB (!v1002)) rfl rfl (qp (AB (!v1002)) rfl ?_)
    refine r_nil ?_
    refine cF hF (fun hF => ?_) fun hF => ?_
    ·
     refine ws 961 1025 ?_
     refine qp (AB false) rfl ?_
     refine r_nil ?_
     refine w_ret ?_
     refine blockQ_r ?_
     refine thenQ_r ?_
     refine thenQ_r ?_
     refine blockQ_r ?_
     refine thenQ_r ?_
     cases hF
     exact eR
    ·
     refine w_skip ?_
     refine blockQ_n ?_
     refine thenQ_n ?_
     refine w_reg 961 1089 rfl rfl ?_
     refine qp (AI (w64 (v8 + 1))) rfl (qp (AI (w64 (v8 + 1))) rfl ?_)
     refine r_nil ?_
     refine thenQ_n ?_
     refine ar (l' := [(8, AL 2 (v0.map eNote)), (9, AI (v0.length : Int)), (10, AI (w64 (v8 + 1)))]) (L := []) [8, 9, 10] [] 1 ⟨_, by rfl, hF⟩
  ·
   refine w_exit ?_
   refine thenQ_e ?_
   refine thenQ_e ?_
   refine blockQ_e ?_
   refine thenQ_n ?_
   refine ws 65 129 ?_
   refine qp (AB true) rfl ?_
   refine r_nil ?_
   refine w_ret ?_
   cases hF
   exact eR

def c264 : MC := (.seq (.reg [rg 4 (.p true (.mv (.c (.bool false))))]) (.seq (.reg [mvt 5 0, rg 6 (.p true (.ld (.t 1) 1 false)), rg 7 (.p true (.ld (.t 2) 1 false)), rg 8 (.call true 103 [(.t 5), (.t 6), (.t 7)]), rg 9 (.p true (.not (.t 8))), mvt 4 9]) .ret))
theorem c264_is : compFn Try.prog 264 = some (c264, [(.tmp 4)]) := by kernel_rfl
theorem c264_ok : okFn Try.prog 264 = true := by kernel_rfl

noncomputable def F_impl_allWithin_1 (v0 : Int) (v1 : Int) (v2 : Int) : Option (Bool) :=
 ((F_impl_within v0 v1 v2).bind fun v1000 => some (!v1000))
@[simp] def res_impl_allWithin_1 (r : Bool) : RV := .one (.one (.val (.bool r)))
theorem con_impl_allWithin_1 {v0 : Int} {v1 : Int} {v2 : Int} {r : Bool} (hF : F_impl_allWithin_1 v0 v1 v2 = some r) : Con Try.prog 264 [.int .i64 v0, .ptr [.int .i64 v1], .ptr [.int .i64 v2]] (res_impl_allWithin_1 r) := by
 unfold F_impl_allWithin_1 at hF
 refine con_of c264_is fun N => ?_
 refine ws 0 64 ?_
 refine qp (AB false) rfl ?_
 refine r_nil ?_
 refine ws 64 448 ?_
 refine qp (AI v0) rfl (qp (AI v1) rfl (qp (AI v2) rfl ?_))
 obtain ⟨v1000, e1000, hF⟩ := bind_get hF
 refine qc (AB v1000) [] false (con_impl_within e1000) c103_ok (by first | rfl | simp) rfl ?_
 refine qp (AB (!v1000)) rfl (qp (AB (!v1000)) rfl ?_)
 refine r_nil ?_
 refine w_ret ?_
 cases hF
 exact eR

def c283 : MC := (.seq (.reg [rg 4 (.p true (.mv (.c (.int .i64 0))))]) (.seq (.seq (.reg [mvt 6 0, rg 7 (.p true (.len (.t 6))), rg 8 (.p true (.mv (.c (.int .i64 0))))]) (.block 0 (.loop (.seq (.reg [rg 9 (.p true (.bin .lss (.t 8) (.t 7)))]) (.seq (.cond (.t 9) .skip (.exit 0)) (.seq (.block 1 (.seq (.reg [mvt 10 8, mvt 5 10]) (.seq (.reg [mvt 11 1, mvt 12 0, mvt 13 5, rg 14 (.p true (.iad (.t 12) (.t 13) 1)), rg 15 (.p true (.ld (.t 14) 1 false)), rg 16 (.callv (.t 11) [(.t 15)])]) (.cond (.t 16) (.seq (.reg [mvt 17 5, mvt 4 17]) .ret) .skip)))) (.reg [rg 18 (.p true (.bin .add (.t 8) (.c (.int .i64 1)))), mvt 8 18]))))))) (.seq (.reg [rg 4 (.p true (.mv (.c (.int .i64 (-1)))))]) .ret)))
theorem c283_is : compFn Try.prog 283 = some (c283, [(.tmp 4)]) := by kernel_rfl
theorem c283_ok : okFn Try.prog 283 = true := by kernel_rfl

noncomputable def F_slices_IndexFunc_Sint64_int64_l0 (v0 : List Int) (v1 : Int) (v2 : Int) (k0 : Int → Option (Int)) : Int → Option (Int)
 | v8 => (bif (decide (v8 < (v0.length : Int))) then ((ix v0 v8).bind fun v1000 => ((F_impl_allWithin_1 v1000 v1 v2).bind fun v1001 => (bif v1001 then some v8
 else k0 (w64 (v8 + 1)))))
 else some (-1))
noncomputable def F_slices_IndexFunc_Sint64_int64 (v0 : List Int) (v1 : Int) (v2 : Int) : Option (Int) :=
 loop (F_slices_IndexFunc_Sint64_int64_l0 v0 v1 v2) 0
@[simp] def res_slices_IndexFunc_Sint64_int64 (r : Int) : RV := .one (.one (.val (.int .i64 r)))
theorem con_slices_IndexFunc_Sint64_int64 {v0 : List Int} {v1 : Int} {v2 : Int} {r : Int} (hF : F_slices_IndexFunc_Sint64_int64 v0 v1 v2 = some r) : Con Try.prog 283 [.sl 1 (v0.map vI), .fn 264 [.ptr [.int .i64 v1], .ptr [.int .i64 v2]]] (res_slices_IndexFunc_Sint64_int64 r) := by
 unfold F_slices_IndexFunc_Sint64_int64 at hF
 refine con_of c283_is fun N => ?_
 refine ws 0 64 ?_
 refine qp (AI 0) rfl ?_
 refine r_nil ?_
 refine w_seq ?_
 refine ws 64 256 ?_
 refine qp (AL 1 (v0.map vI)) rfl (qp (AI (v0.length : Int)) (ev_len_n rfl) (qp (AI 0) rfl ?_))
 refine r_nil ?_
 refine w_block ?_
 refine wr (l' := [(0, AL 1 (v0.map vI)), (1, .val none (.fn 264 [.ptr [.int .i64 v1], .ptr [.int .i64 v2]])), (7, AI (v0.length : Int)), (8, AI 0)]) (L := []) [0, 1, 7, 8] [] 1 ?_
 refine w_loopF (F_slices_IndexFunc_Sint64_int64_l0 v0 v1 v2) (fun s : Int => mkS [(0, AL 1 (v0.map vI)), (1, .val none (.fn 264 [.ptr [.int .i64 v1], .ptr [.int .i64 v2]])), (7, AI (v0.length : Int)), (8, AI s)] (fo []) 1) hF ?_
 rintro k0 v8 hF
 rw [F_slices_IndexFunc_Sint64_int64_l0] at hF
 try dsimp only
 refine ws 1 65 ?_
 refine qp (AB (decide (v8 < (v0.length : Int)))) rfl ?_
 refine r_nil ?_
 refine w_seq ?_
 refine cF hF (fun hF => ?_) fun hF => ?_
 ·
  refine w_skip ?_
  refine thenQ_n ?_
  refine w_seq ?_
  refine w_block ?_
  refine ws 65 193 ?_
  refine qp (AI v8) rfl (qp (AI v8) rfl ?_)
  refine r_nil ?_
  refine ws 193 577 ?_
  refine qp (.val none (.fn 264 [.ptr [.int .i64 v1], .ptr [.int .i64 v2]])) rfl (qp (AL 1 (v0.map vI)) rfl (qp (AI v8) rfl ?_))
  obtain ⟨v1000, e1000, hF⟩ := bind_get hF
  refine qp (.val none (.ptr [.int .i64 v1000])) (ev_iad_n rfl rfl e1000 rfl) (qp (AI v1000) rfl ?_)
  obtain ⟨v1001, e1001, hF⟩ := bind_get hF
  refine qcv (AB v1001) [] false rfl (con_impl_allWithin_1 e1001) c264_ok (by first | rfl | simp) rfl ?_
  refine r_nil ?_
  refine cF hF (fun hF => ?_) fun hF => ?_
  ·
   refine ws 577 705 ?_
   refine qp (AI v8) rfl (qp (AI v8) rfl ?_)
   refine r_nil ?_
   refine w_ret ?_
   refine blockQ_r ?_
   refine thenQ_r ?_
   refine thenQ_r ?_
   refine blockQ_r ?_
   refine thenQ_r ?_
   cases hF
   exact eR
  ·
   refine w_skip ?_
   refine blockQ_n ?_
   refine thenQ_n ?_
   refine w_reg 577 705 rfl rfl ?_
   refine qp (AI (w64 (v8 + 1))) rfl (qp (AI (w64 (v8 + 1))) rfl ?_)
   refine r_nil ?_
   refine thenQ_n ?_
   refine ar (l' := [(0, AL 1 (v0.map vI)), (1, .val none (.fn 264 [.ptr [.int .i64 v1], .ptr [.int .i64 v2]])), (7, AI (v0.length : Int)), (8, AI (w64 (v8 + 1)))]) (L := []) [0, 1, 7, 8] [] 1 ⟨_, by rfl, hF⟩
 ·
  refine w_exit ?_
  refine thenQ_e ?_
  refine thenQ_e ?_
  refine blockQ_e ?_
  refine thenQ_n ?_
  refine ws 65 129 ?_
  refine qp (AI (-1)) rfl ?_
  refine r_nil ?_
  refine w_ret ?_
  cases hF
  exact eR

def c263 : MC := (.seq (.reg [rg 4 (.p true (.mv (.c (.bool false))))]) (.seq (.reg [mvt 5 0, mvt 6 1, rg 7 (.call true 283 [(.t 5), (.t 6)]), rg 8 (.p true (.bin .geq (.t 7) (.c (.int .i64 0)))), mvt 4 8]) .ret))
theorem c263_is : compFn Try.prog 263 = some (c263, [(.tmp 4)]) := by kernel_rfl
theorem c263_ok : okFn Try.prog 263 = true := by kernel_rfl

noncomputable def F_slices_ContainsFunc_Sint64_int64 (v0 : List Int) (v1 : Int) (v2 : Int) : Option (Bool) :=
 ((F_slices_IndexFunc_Sint64_int64 v0 v1 v2).bind fun v1000 => some (decide ((0 : Int) ≤ v1000)))
@[simp] def res_slices_ContainsFunc_Sint64_int64 (r : Bool) : RV := .one (.one (.val (.bool r)))
theorem con_slices_ContainsFunc_Sint64_int64 {v0 : List Int} {v1 : Int} {v2 : Int} {r : Bool} (hF : F_slices_ContainsFunc_Sint64_int64 v0 v1 v2 = some r) : Con Try.prog 263 [.sl 1 (v0.map vI), .fn 264 [.ptr [.int .i64 v1], .ptr [.int .i64 v2]]] (res_slices_ContainsFunc_Sint64_int64 r) := by
 unfold F_slices_ContainsFunc_Sint64_int64 at hF
 refine con_of c263_is fun N => ?_
 refine ws 0 64 ?_
 refine qp (AB false) rfl ?_
 refine r_nil ?_
 refine ws 64 384 ?_
 refine qp (AL 1 (v0.map vI)) rfl (qp (.val none (.fn 264 [.ptr [.int .i64 v1], .ptr [.int .i64 v2]])) rfl ?_)
 obtain ⟨v1000, e1000, hF⟩ := bind_get hF
 refine qc (AI v1000) [] false (con_slices_IndexFunc_Sint64_int64 e1000) c283_ok (by first | rfl | simp) rfl ?_
 refine qp (AB (decide ((0 : Int) ≤ v1000))) rfl (qp (AB (decide ((0 : Int) ≤ v1000))) rfl ?_)
 refine r_nil ?_
 refine w_ret ?_
 cases hF
 exact eR

def c211 : MC := (.seq (.reg [rg 4 (.f (.box (.t 1))), rg 5 (.f (.box (.t 2))), rg 6 (.p true (.mv (.c (.bool false))))]) (.seq (.reg [mvt 7 0, rg 8 (.p true (.mkf 264 [(.t 4), (.t 5)])), rg 9 (.call true 263 [(.t 7), (.t 8)]), rg 10 (.p true (.not (.t 9))), mvt 6 10]) .ret))
theorem c211_is : compFn Try.prog 211 = some (c211, [(.tmp 6)]) := by kernel_rfl
theorem c211_ok : okFn Try.prog 211 = true := by kernel_rfl

noncomputable def F_impl_allWithin (v0 : List Int) (v1 : Int) (v2 : Int) : Option (Bool) :=
 ((F_slices_ContainsFunc_Sint64_int64 v0 v1 v2).bind fun v1000 => some (!v1000))
@[simp] def res_impl_allWithin (r : Bool) : RV := .one (.one (.val (.bool r)))
theorem con_impl_allWithin {v0 : List Int} {v1 : Int} {v2 : Int} {r : Bool} (hF : F_impl_allWithin v0 v1 v2 = some r) : Con Try.prog 211 [.sl 1 (v0.map vI), .int .i64 v1, .int .i64 v2] (res_impl_allWithin r) := by
 unfold F_impl_allWithin at hF
 refine con_of c211_is fun N => ?_
 refine ws 0 192 ?_
 refine qf (.ptr 0 0 0) [(0, .box [AI v1])] (by simp) ?_
 refine qf (.ptr 64 0 0) [(64, .box [AI v2]), (0, .box [AI v1])] (by simp) ?_
 refine qp (AB false) rfl ?_
 refine r_nil ?_
 refine ws 192 512 ?_
 refine qp (AL 1 (v0.map vI)) rfl (qp (.fn 264 [.ptr 0 0 0, .ptr 64 0 0]) rfl ?_)
 obtain ⟨v1000, e1000, hF⟩ := bind_get hF
 refine qc (AB v1000) [(64, .box [AI v2]), (0, .box [AI v1])] true (con_slices_ContainsFunc_Sint64_int64 e1000) c263_ok (by simp [List.take_of_length_le]) rfl ?_
 refine qp (AB (!v1000)) rfl (qp (AB (!v1000)) rfl ?_)
 refine r_nil ?_
 refine w_ret ?_
 cases hF
 exact eR

def c239 : MC := (.seq (.reg [rg 2 (.p true (.mv (.c (.int .i64 0))))]) (.seq (.reg [rg 3 (.p true (.mv (.c (.int .i64 0))))]) (.seq (.seq (.reg [mvt 6 0, rg 7 (.p true (.len (.t 6))), rg 8 (.p true (.mv (.c (.int .i64 0))))]) (.block 0 (.loop (.seq (.reg [rg 9 (.p true (.bin .lss (.t 8) (.t 7)))]) (.seq (.cond (.t 9) .skip (.exit 0)) (.seq (.block 1 (.seq (.reg [rg 10 (.p true (.iad (.t 6) (.t 8) 1)), rg 11 (.p true (.ld (.t 10) 1 false)), mvt 5 11]) (.reg [mvt 12 3, mvt 13 5, rg 14 (.p true (.bin .add (.t 12) (.t 13))), mvt 3 14]))) (.reg [rg 15 (.p true (.bin .add (.t 8) (.c (.int .i64 1)))), mvt 8 15]))))))) (.seq (.reg [mvt 16 3, mvt 2 16]) .ret))))
theorem c239_is : compFn Try.prog 239 = some (c239, [(.tmp 2)]) := by kernel_rfl
theorem c239_ok : okFn Try.prog 239 = true := by kernel_rfl

noncomputable def F_impl_sumOf_l0 (v0 : List Int) (k0 : Int × Int → Option (Int)) : Int × Int → Option (Int)
 | (v5, v6) => (bif (decide (v6 < (v0.length : Int))) then ((ix v0 v6).bind fun v1000 => k0 (w64 (v5 + v1000), w64 (v6 + 1)))
 else some v5)
noncomputable def F_impl_sumOf (v0 : List Int) : Option (Int) :=
 loop (F_impl_sumOf_l0 v0) (0, 0)
@[simp] def res_impl_sumOf (r : Int) : RV := .one (.one (.val (.int .i64 r)))
theorem con_impl_sumOf {v0 : List Int} {r : Int} (hF : F_impl_sumOf v0 = some r) : Con Try.prog 239 [.sl 1 (v0.map vI)] (res_impl_sumOf r) := by
 unfold F_impl_sumOf at hF
 refine con_of c239_is fun N => ?_
 refine ws 0 64 ?_
 refine qp (AI 0) rfl ?_
 refine r_nil ?_
 refine ws 64 128 ?_
 refine qp (AI 0) rfl ?_
 refine r_nil ?_
 refine w_seq ?_
 refine ws 128 320 ?_
 refine qp (AL 1 (v0.map vI)) rfl (qp (AI (v0.length : Int)) (ev_len_n rfl) (qp (AI 0) rfl ?_))
 refine r_nil ?_
 refine w_block ?_
 refine wr (l' := [(3, AI 0), (6, AL 1 (v0.map vI)), (7, AI (v0.length : Int)), (8, AI 0)]) (L := []) [3, 6, 7, 8] [] 1 ?_
 refine w_loopF (F_impl_sumOf_l0 v0) (fun s : Int × Int => mkS [(3, AI s.1), (6, AL 1 (v0.map vI)), (7, AI (v0.length : Int)), (8, AI s.2)] (fo []) 1) hF ?_
 rintro k0 ⟨v5, v6⟩ hF
 rw [F_impl_sumOf_l0] at hF
 try dsimp only
 refine ws 1 65 ?_
 refine qp (AB (decide (v6 < (v0.length : Int)))) rfl ?_
 refine r_nil ?_
 refine w_seq ?_
 refine cF hF (fun hF => ?_) fun hF => ?_
 ·
  refine w_skip ?_
  refine thenQ_n ?_
  refine w_seq ?_
  refine w_block ?_
  refine ws 65 257 ?_
  obtain ⟨v1000, e1000, hF⟩ := bind_get hF
  refine qp (.val none (.ptr [.int .i64 v1000])) (ev_iad_n rfl rfl e1000 rfl) (qp (AI v1000) rfl (qp (AI v1000) rfl ?_))
  refine r_nil ?_
  refine w_reg 257 513 rfl rfl ?_
  refine qp (AI v5) rfl (qp (AI v1000) rfl (qp (AI (w64 (v5 + v1000))) rfl (qp (AI (w64 (v5 + v1000))) rfl ?_)))
  refine r_nil ?_
  refine blockQ_n ?_
  refine thenQ_n ?_
  refine w_reg 513 641 rfl rfl ?_
  refine qp (AI (w64 (v6 + 1))) rfl (qp (AI (w64 (v6 + 1))) rfl ?_)
  refine r_nil ?_
  refine thenQ_n ?_
  refine ar (l' := [(3, AI (w64 (v5 + v1000))), (6, AL 1 (v0.map vI)), (7, AI (v0.length : Int)), (8, AI (w64 (v6 + 1)))]) (L := []) [3, 6, 7, 8] [] 1 ⟨_, by rfl, hF⟩
 ·
  refine w_exit ?_
  refine thenQ_e ?_
  refine thenQ_e ?_
  refine blockQ_e ?_
  refine thenQ_n ?_
  refine ws 65 193 ?_
  refine qp (AI v5) rfl (qp (AI v5) rfl ?_)
  refine r_nil ?_
  refine w_ret ?_
  cases hF
  exact eR

def c160 : MC := (.seq (.reg [rg 1 (.f (.box (.t 0))), rg 2 (.p true (.mv (.c (.int .i64 0))))]) (.seq (.reg [rg 3 (.p true (.fad (.t 1) 1)), rg 4 (.p true (.ld (.t 3) 1 false)), rg 5 (.call true 239 [(.t 4)]), mvt 2 5]) .ret))
theorem c160_is : compFn Try.prog 160 = some (c160, [(.tmp 2)]) := by kernel_rfl
theorem c160_ok : okFn Try.prog 160 = true := by kernel_rfl

noncomputable def F_impl_Tala_beats (v0 : TTala) : Option (Int) :=
 ((F_impl_sumOf v0.2.1).bind fun v1000 => some v1000)
@[simp] def res_impl_Tala_beats (r : Int) : RV := .one (.one (.val (.int .i64 r)))
theorem con_impl_Tala_beats {v0 : TTala} {r : Int} (hF : F_impl_Tala_beats v0 = some r) : Con Try.prog 160 [eTala v0] (res_impl_Tala_beats r) := by
 unfold F_impl_Tala_beats at hF
 refine con_of c160_is fun N => ?_
 refine ws 0 128 ?_
 refine qf (.ptr 0 0 0) [(0, .box [AS v0.1, AL 1 (v0.2.1.map vI), AL 1 (v0.2.2.map vI)])] (by simp) ?_
 refine qp (AI 0) rfl ?_
 refine r_nil ?_
 refine ws 128 384 ?_
 refine qp (.ptr 0 0 1) rfl (qp (AL 1 (v0.2.1.map vI)) rfl ?_)
 obtain ⟨v1000, e1000, hF⟩ := bind_get hF
 refine qc (AI v1000) [(0, .box [AS v0.1, AL 1 (v0.2.1.map vI), AL 1 (v0.2.2.map vI)])] false (con_impl_sumOf e1000) c239_ok (by first | rfl | simp) rfl ?_
 refine qp (AI v1000) rfl ?_
 refine r_nil ?_
 refine w_ret ?_
 cases hF
 exact eR

def c159 : MC := (.seq (.reg [rg 1 (.f (.box (.t 0))), rg 2 (.p true (.mv (.c (.bool false))))]) (.seq (.seq (.reg [rg 3 (.p true (.fad (.t 1) 0)), rg 4 (.p true (.ld (.t 3) 1 false)), rg 5 (.call true 189 [(.t 4)]), rg 6 (.p true (.not (.t 5))), mvt 7 6, ⟨(some 8), (some (7, false)), (.p true (.fad (.t 1) 1))⟩, ⟨(some 9), (some (7, false)), (.p true (.ld (.t 8) 1 false))⟩, ⟨(some 10), (some (7, false)), (.p true (.len (.t 9)))⟩, ⟨(some 11), (some (7, false)), (.p true (.bin .lss (.t 10) (.c (.int .i64 1))))⟩, rg 12 (.p true (.pick (.t 7) (.c (.bool true)) (.t 11))), mvt 13 12, ⟨(some 14), (some (13, false)), (.p true (.fad (.t 1) 1))⟩, ⟨(some 15), (some (13, false)), (.p true (.ld (.t 14) 1 false))⟩, ⟨(some 16), (some (13, false)), (.p true (.len (.t 15)))⟩, ⟨(some 17), (some (13, false)), (.p true (.bin .gtr (.t 16) (.c (.int .i64 8))))⟩, rg 18 (.p true (.pick (.t 13) (.c (.bool true)) (.t 17))), mvt 19 18, ⟨(some 20), (some (19, false)), (.p true (.fad (.t 1) 1))⟩, ⟨(some 21), (some (19, false)), (.p true (.ld (.t 20) 1 false))⟩, ⟨(some 22), (some (19, false)), (.call true 211 [(.t 21), (.c (.int .i64 1)), (.c (.int .i64 16))])⟩, ⟨(some 23), (some (19, false)), (.p true (.not (.t 22)))⟩, rg 24 (.p true (.pick (.t 19) (.c (.bool true)) (.t 23))), mvt 25 24, ⟨(some 26), (some (25, false)), (.p true (.ld (.t 1) 3 true))⟩, ⟨(some 27), (some (25, false)), (.call true 160 [(.t 26)])⟩, ⟨(some 28), (some (25, false)), (.p true (.bin .gtr (.t 27) (.c (.int .i64 32))))⟩, rg 29 (.p true (.pick (.t 25) (.c (.bool true)) (.t 28)))]) (.cond (.t 29) (.seq (.reg [rg 2 (.p true (.mv (.c (.bool false))))]) .ret) .skip)) (.seq (.reg [rg 30 (.p true (.fad (.t 1) 2)), rg 31 (.p true (.ld (.t 30) 1 false)), rg 32 (.p true (.len (.t 31))), rg 33 (.p true (.fad (.t 1) 1)), rg 34 (.p true (.ld (.t 33) 1 false)), rg 35 (.p true (.len (.t 34))), rg 36 (.p true (.bin .eql (.t 32) (.t 35))), mvt 37 36, ⟨(some 38), (some (37, true)), (.p true (.fad (.t 1) 2))⟩, ⟨(some 39), (some (37, true)), (.p true (.ld (.t 38) 1 false))⟩, ⟨(some 40), (some (37, true)), (.p true (.iad (.t 39) (.c (.int .i64 0)) 1))⟩, ⟨(some 41), (some (37, true)), (.p true (.ld (.t 40) 1 false))⟩, ⟨(some 42), (some (37, true)), (.p true (.bin .eql (.t 41) (.c (.int .i64 1))))⟩, rg 43 (.p true (.pick (.t 37) (.t 42) (.c (.bool false)))), mvt 44 43, ⟨(some 45), (some (44, true)), (.p true (.fad (.t 1) 2))⟩, ⟨(some 46), (some (44, true)), (.p true (.ld (.t 45) 1 false))⟩, ⟨(some 47), (some (44, true)), (.p true (.slc (.t 46) (some (.c (.int .i64 1))) none 1))⟩, ⟨(some 48), (some (44, true)), (.call true 211 [(.t 47), (.c (.int .i64 2)), (.c (.int .i64 3))])⟩, rg 49 (.p true (.pick (.t 44) (.t 48) (.c (.bool false)))), mvt 2 49]) .ret)))
theorem c159_is : compFn Try.prog 159 = some (c159, [(.tmp 2)]) := by kernel_rfl
theorem c159_ok : okFn Try.prog 159 = true := by kernel_rfl

noncomputable def F_impl_ValidTala (v0 : TTala) : Option (Bool) :=
 ((F_impl_IsName v0.1).bind fun v1000 => (bif (!v1000) then some false
 else (bif (decide ((v0.2.1.length : Int) < (1 : Int))) then some false
 else (bif (decide ((8 : Int) < (v0.2.1.length : Int))) then some false
 else ((F_impl_allWithin v0.2.1 1 16).bind fun v1001 => (bif (!v1001) then some false
 else ((F_impl_Tala_beats v0).bind fun v1002 => (bif (decide ((32 : Int) < v1002)) then some false
 else (bif (decide ((v0.2.2.length : Int) = (v0.2.1.length : Int))) then ((ix v0.2.2 0).bind fun v1003 => (bif (decide (v1003 = (1 : Int))) then (need (0 ≤ (1 : Int) ∧ (1 : Int) ≤ (v0.2.2.length : Int) ∧ (v0.2.2.length : Int) ≤ (v0.2.2.length : Int)) (((F_impl_allWithin (sub v0.2.2 1 (v0.2.2.length : Int)) 2 3).bind fun v1005 => some v1005)))
 else some false))
 else some false)))))))))
@[simp] def res_impl_ValidTala (r : Bool) : RV := .one (.one (.val (.bool r)))
theorem con_impl_ValidTala {v0 : TTala} {r : Bool} (hF : F_impl_ValidTala v0 = some r) : Con Try.prog 159 [eTala v0] (res_impl_ValidTala r) := by
 unfold F_impl_ValidTala at hF
 refine con_of c159_is fun N => ?_
 refine ws 0 128 ?_
 refine qf (.ptr 0 0 0) [(0, .box [AS v0.1, AL 1 (v0.2.1.map vI), AL 1 (v0.2.2.map vI)])] (by simp) ?_
 refine qp (AB false) rfl ?_
 refine r_nil ?_
 refine w_seq ?_
 refine ws 128 1856 ?_
 refine qp (.ptr 0 0 0) rfl (qp (AS v0.1) rfl ?_)
 obtain ⟨v1000, e1000, hF⟩ := bind_get hF
 refine qc (AB v1000) [(0, .box [AS v0.1, AL 1 (v0.2.1.map vI), AL 1 (v0.2.2.map vI)])] false (con_impl_IsName e1000) c189_ok (by first | rfl | simp) rfl ?_
 refine qp (AB (!v1000)) rfl (qp (AB (!v1000)) rfl ?_)
 refine q_case 7 hF rfl (fun hF => ?_) (fun hF => ?_)
 ·
  refine qn rfl (qn rfl (qn rfl (qn rfl (qp (AB true) rfl (qp (AB true) rfl (qn rfl (qn rfl ?_)))))))
  refine qn rfl (qn rfl (qp (AB true) rfl (qp (AB true) rfl (qn rfl (qn rfl (qn rfl (qn rfl ?_)))))))
  refine qp (AB true) rfl (qp (AB true) rfl (qn rfl (qn rfl (qn rfl (qp (AB true) rfl ?_)))))
  refine r_nil ?_
  refine w_true rfl ?_
  refine ws 1856 1920 ?_
  refine qp (AB false) rfl ?_
  refine r_nil ?_
  refine w_ret ?_
  refine thenQ_r ?_
  cases hF
  exact eR
 ·
  refine qg (.ptr 0 0 1) rfl rfl (qg (AL 1 (v0.2.1.map vI)) rfl rfl (qg (AI (v0.2.1.length : Int)) rfl (ev_len_n rfl) (qg (AB (decide ((v0.2.1.length : Int) < (1 : Int)))) rfl rfl (qp (AB (decide ((v0.2.1.length : Int) < (1 : Int)))) rfl (qp (AB (decide ((v0.2.1.length : Int) < (1 : Int)))) rfl ?_)))))
  refine q_case 13 hF rfl (fun hF => ?_) (fun hF => ?_)
  ·
   refine qn rfl (qn rfl (qn rfl (qn rfl (qp (AB true) rfl (qp (AB true) rfl (qn rfl (qn rfl ?_)))))))
   refine qn rfl (qn rfl (qp (AB true) rfl (qp (AB true) rfl (qn rfl (qn rfl (qn rfl (qp (AB true) rfl ?_)))))))
   refine r_nil ?_
   refine w_true rfl ?_
   refine ws 1856 1920 ?_
   refine qp (AB false) rfl ?_
   refine r_nil ?_
   refine w_ret ?_
   refine thenQ_r ?_
   cases hF
   exact eR
  ·
   refine qg (.ptr 0 0 1) rfl rfl (qg (AL 1 (v0.2.1.map vI)) rfl rfl (qg (AI (v0.2.1.length : Int)) rfl (ev_len_n rfl) (qg (AB (decide ((8 : Int) < (v0.2.1.length : Int)))) rfl rfl (qp (AB (decide ((8 : Int) < (v0.2.1.length : Int)))) rfl (qp (AB (decide ((8 : Int) < (v0.2.1.length : Int)))) rfl ?_)))))
   refine q_case 19 hF rfl (fun hF => ?_) (fun hF => ?_)
   ·
    refine qn rfl (qn rfl (qn rfl (qn rfl (qp (AB true) rfl (qp (AB true) rfl (qn rfl (qn rfl ?_)))))))
    refine qn rfl (qp (AB true) rfl ?_)
    refine r_nil ?_
    refine w_true rfl ?_
    refine ws 1856 1920 ?_
    refine qp (AB false) rfl ?_
    refine r_nil ?_
    refine w_ret ?_
    refine thenQ_r ?_
    cases hF
    exact eR
   ·
    refine qg (.ptr 0 0 1) rfl rfl (qg (AL 1 (v0.2.1.map vI)) rfl rfl ?_)
    obtain ⟨v1001, e1001, hF⟩ := bind_get hF
    refine qcg (AB v1001) [(0, .box [AS v0.1, AL 1 (v0.2.1.map vI), AL 1 (v0.2.2.map vI)])] false rfl (con_impl_allWithin e1001) c211_ok (by first | rfl | simp) rfl ?_
    refine qg (AB (!v1001)) rfl rfl (qp (AB (!v1001)) rfl (qp (AB (!v1001)) rfl ?_))
    refine q_case 25 hF rfl (fun hF => ?_) (fun hF => ?_)
    ·
     refine qn rfl (qn rfl (qn rfl (qp (AB true) rfl ?_)))
     refine r_nil ?_
     refine w_true rfl ?_
     refine ws 1856 1920 ?_
     refine qp (AB false) rfl ?_
     refine r_nil ?_
     refine w_ret ?_
     refine thenQ_r ?_
     cases hF
     exact eR
    ·
     refine qg (.agg [AS v0.1, AL 1 (v0.2.1.map vI), AL 1 (v0.2.2.map vI)]) rfl rfl ?_
     obtain ⟨v1002, e1002, hF⟩ := bind_get hF
     refine qcg (AI v1002) [(0, .box [AS v0.1, AL 1 (v0.2.1.map vI), AL 1 (v0.2.2.map vI)])] false rfl (con_impl_Tala_beats e1002) c160_ok (by first | rfl | simp) rfl ?_
     refine qg (AB (decide ((32 : Int) < v1002))) rfl rfl (qp (AB (decide ((32 : Int) < v1002))) rfl ?_)
     refine r_nil ?_
     refine cF hF (fun hF => ?_) fun hF => ?_
     ·
      refine ws 1856 1920 ?_
      refine qp (AB false) rfl ?_
      refine r_nil ?_
      refine w_ret ?_
      refine thenQ_r ?_
      cases hF
      exact eR
     ·
      refine w_skip ?_
      refine thenQ_n ?_
      refine ws 1856 3200 ?_
      refine qp (.ptr 0 0 2) rfl (qp (AL 1 (v0.2.2.map vI)) rfl (qp (AI (v0.2.2.length : Int)) (ev_len_n rfl) (qp (.ptr 0 0 1) rfl (qp (AL 1 (v0.2.1.map vI)) rfl (qp (AI (v0.2.1.length : Int)) (ev_len_n rfl) (qp (AB (decide ((v0.2.2.length : Int) = (v0.2.1.length : Int)))) rfl (qp (AB (decide ((v0.2.2.length : Int) = (v0.2.1.length : Int)))) rfl ?_)))))))
      refine q_case 37 hF rfl (fun hF => ?_) (fun hF => ?_)
      ·
       refine qg (.ptr 0 0 2) rfl rfl (qg (AL 1 (v0.2.2.map vI)) rfl rfl ?_)
       obtain ⟨v1003, e1003, hF⟩ := bind_get hF
       refine qg (.val none (.ptr [.int .i64 v1003])) rfl (ev_iad_n rfl rfl e1003 rfl) (qg (AI v1003) rfl rfl (qg (AB (decide (v1003 = (1 : Int)))) rfl rfl (qp (AB (decide (v1003 = (1 : Int)))) rfl (qp (AB (decide (v1003 = (1 : Int)))) rfl ?_))))
       refine q_case 44 hF rfl (fun hF => ?_) (fun hF => ?_)
       ·
        refine qg (.ptr 0 0 2) rfl rfl (qg (AL 1 (v0.2.2.map vI)) rfl rfl ?_)
        obtain ⟨g1004, hF⟩ := need_some hF
        refine qg (AL 1 ((sub v0.2.2 1 (v0.2.2.length : Int)).map vI)) rfl (ev_slc_n rfl rfl rfl g1004) ?_
        obtain ⟨v1005, e1005, hF⟩ := bind_get hF
        refine qcg (AB v1005) [(0, .box [AS v0.1, AL 1 (v0.2.1.map vI), AL 1 (v0.2.2.map vI)])] false rfl (con_impl_allWithin e1005) c211_ok (by first | rfl | simp) rfl ?_
        refine qp (AB v1005) rfl (qp (AB v1005) rfl ?_)
        refine r_nil ?_
        refine w_ret ?_
        cases hF
        exact eR
       ·
        refine qn rfl (qn rfl (qn rfl (qn rfl (qp (AB false) rfl (qp (AB false) rfl ?_)))))
        refine r_nil ?_
        refine w_ret ?_
        cases hF
        exact eR
      ·
       refine qn rfl (qn rfl (qn rfl (qn rfl (qn rfl (qp (AB false) rfl (qp (AB false) rfl (qn rfl ?_)))))))
       refine qn rfl (qn rfl (qn rfl (qp (AB false) rfl (qp (AB false) rfl ?_))))
       refine r_nil ?_
       refine w_ret ?_
       cases hF
       exact eR

def c51 : MC := (.seq (.reg [rg 6 (.f (.box (.t 0))), rg 12 (.p true (.mv (.c (.int .i64 0))))]) (.seq (.block 0 (.seq (.reg [rg 14 (.p true (.ld (.t 6) 3 true)), rg 15 (.call true 159 [(.t 14)]), rg 16 (.p true (.not (.t 15))), mvt 13 16]) (.cond (.t 13) (.seq (.reg [rg 12 (.p true (.mv (.c (.int .i64 1))))]) .ret) (.seq (.reg [mvt 18 1, rg 19 (.call true 103 [(.t 18), (.c (.int .i64 1)), (.c (.int .i64 8))]), rg 20 (.p true (.not (.t 19))), mvt 21 20, ⟨(some 22), (some (21, false)), (.p true (.mv (.t 2)))⟩, ⟨(some 23), (some (21, false)), (.p true (.ld (.t 6) 3 true))⟩, ⟨(some 24), (some (21, false)), (.call true 160 [(.t 23)])⟩, ⟨(some 25), (some (21, false)), (.p true (.mv (.t 1)))⟩, ⟨(some 26), (some (21, false)), (.p true (.bin .mul (.t 24) (.t 25)))⟩, ⟨(some 27), (some (21, false)), (.p true (.bin .sub (.t 26) (.c (.int .i64 1))))⟩, ⟨(some 28), (some (21, false)), (.call true 103 [(.t 22), (.c (.int .i64 0)), (.t 27)])⟩, ⟨(some 29), (some (21, false)), (.p true (.not (.t 28)))⟩, rg 30 (.p true (.pick (.t 21) (.c (.bool true)) (.t 29))), mvt 31 30, ⟨(some 32), (some (31, false)), (.p true (.mv (.t 3)))⟩, ⟨(some 33), (some (31, false)), (.call true 103 [(.t 32), (.c (.int .i64 1)), (.c (.int .i64 64))])⟩, ⟨(some 34), (some (31, false)), (.p true (.not (.t 33)))⟩, rg 35 (.p true (.pick (.t 31) (.c (.bool true)) (.t 34))), mvt 36 35, ⟨(some 37), (some (36, false)), (.p true (.mv (.t 4)))⟩, ⟨(some 38), (some (36, false)), (.call true 103 [(.t 37), (.c (.int .i64 0)), (.c (.int .i64 32))])⟩, ⟨(some 39), (some (36, false)), (.p true (.not (.t 38)))⟩, rg 40 (.p true (.pick (.t 36) (.c (.bool true)) (.t 39))), mvt 41 40, ⟨(some 42), (some (41, false)), (.p true (.mv (.t 5)))⟩, ⟨(some 43), (some (41, false)), (.call true 103 [(.t 42), (.c (.int .i64 0)), (.c (.int .i64 64))])⟩, ⟨(some 44), (some (41, false)), (.p true (.not (.t 43)))⟩, rg 45 (.p true (.pick (.t 41) (.c (.bool true)) (.t 44))), mvt 17 45]) (.cond (.t 17) (.seq (.reg [rg 12 (.p true (.mv (.c (.int .i64 2))))]) .ret) .skip))))) (.seq (.reg [rg 12 (.p true (.mv (.c (.int .i64 0))))]) .ret)))
theorem c51_is : compFn Try.prog 51 = some (c51, [(.tmp 12)]) := by kernel_rfl
theorem c51_ok : okFn Try.prog 51 = true := by kernel_rfl

noncomputable def F_impl_cadenceCode (v0 : TTala) (v1 : Int) (v2 : Int) (v3 : Int) (v4 : Int) (v5 : Int) : Option (Int) :=
 ((F_impl_ValidTala v0).bind fun v1000 => (bif (!v1000) then some 1
 else ((F_impl_within v1 1 8).bind fun v1001 => (bif (!v1001) then some 2
 else ((F_impl_Tala_beats v0).bind fun v1002 => ((F_impl_within v2 0 (w64 ((w64 (v1002 * v1)) - 1))).bind fun v1003 => (bif (!v1003) then some 2
 else ((F_impl_within v3 1 64).bind fun v1004 => (bif (!v1004) then some 2
 else ((F_impl_within v4 0 32).bind fun v1005 => (bif (!v1005) then some 2
 else ((F_impl_within v5 0 64).bind fun v1006 => (bif (!v1006) then some 2
 else some 0)))))))))))))
@[simp] def res_impl_cadenceCode (r : Int) : RV := .one (.one (.val (.int .i64 r)))
theorem con_impl_cadenceCode {v0 : TTala} {v1 : Int} {v2 : Int} {v3 : Int} {v4 : Int} {v5 : Int} {r : Int} (hF : F_impl_cadenceCode v0 v1 v2 v3 v4 v5 = some r) : Con Try.prog 51 [eTala v0, .int .i64 v1, .int .i64 v2, .int .i64 v3, .int .i64 v4, .int .i64 v5] (res_impl_cadenceCode r) := by
 unfold F_impl_cadenceCode at hF
 refine con_of c51_is fun N => ?_
 refine ws 0 128 ?_
 refine qf (.ptr 0 0 0) [(0, .box [AS v0.1, AL 1 (v0.2.1.map vI), AL 1 (v0.2.2.map vI)])] (by simp) ?_
 refine qp (AI 0) rfl ?_
 refine r_nil ?_
 refine w_seq ?_
 refine w_block ?_
 refine ws 128 384 ?_
 refine qp (.agg [AS v0.1, AL 1 (v0.2.1.map vI), AL 1 (v0.2.2.map vI)]) rfl ?_
 obtain ⟨v1000, e1000, hF⟩ := bind_get hF
 refine qc (AB v1000) [(0, .box [AS v0.1, AL 1 (v0.2.1.map vI), AL 1 (v0.2.2.map vI)])] false (con_impl_ValidTala e1000) c159_ok (by first | rfl | simp) rfl ?_
 refine qp (AB (!v1000)) rfl (qp (AB (!v1000)) rfl ?_)
 refine r_nil ?_
 refine cF hF (fun hF => ?_) fun hF => ?_
 ·
  refine ws 384 448 ?_
  refine qp (AI 1) rfl ?_
  refine r_nil ?_
  refine w_ret ?_
  refine blockQ_r ?_
  refine thenQ_r ?_
  cases hF
  exact eR
 ·
  refine ws 384 2240 ?_
  refine qp (AI v1) rfl ?_
  obtain ⟨v1001, e1001, hF⟩ := bind_get hF
  refine qc (AB v1001) [(0, .box [AS v0.1, AL 1 (v0.2.1.map vI), AL 1 (v0.2.2.map vI)])] false (con_impl_within e1001) c103_ok (by first | rfl | simp) rfl ?_
  refine qp (AB (!v1001)) rfl (qp (AB (!v1001)) rfl ?_)
  refine q_case 21 hF rfl (fun hF => ?_) (fun hF => ?_)
  ·
   refine qn rfl (qn rfl (qn rfl (qn rfl (qn rfl (qn rfl (qn rfl (qn rfl ?_)))))))
   refine qp (AB true) rfl (qp (AB true) rfl (qn rfl (qn rfl (qn rfl (qp (AB true) rfl (qp (AB true) rfl (qn rfl ?_)))))))
   refine qn rfl (qn rfl (qp (AB true) rfl (qp (AB true) rfl (qn rfl (qn rfl (qn rfl (qp (AB true) rfl ?_)))))))
   refine qp (AB true) rfl ?_
   refine r_nil ?_
   refine w_true rfl ?_
   refine ws 2240 2304 ?_
   refine qp (AI 2) rfl ?_
   refine r_nil ?_
   refine w_ret ?_
   refine blockQ_r ?_
   refine thenQ_r ?_
   cases hF
   exact eR
  ·
   refine qg (AI v2) rfl rfl (qg (.agg [AS v0.1, AL 1 (v0.2.1.map vI), AL 1 (v0.2.2.map vI)]) rfl rfl ?_)
   obtain ⟨v1002, e1002, hF⟩ := bind_get hF
   refine qcg (AI v1002) [(0, .box [AS v0.1, AL 1 (v0.2.1.map vI), AL 1 (v0.2.2.map vI)])] false rfl (con_impl_Tala_beats e1002) c160_ok (by first | rfl | simp) rfl ?_
   refine qg (AI v1) rfl rfl (qg (AI (w64 (v1002 * v1))) rfl rfl (qg (AI (w64 ((w64 (v1002 * v1)) - 1))) rfl rfl ?_))
   obtain ⟨v1003, e1003, hF⟩ := bind_get hF
   refine qcg (AB v1003) [(0, .box [AS v0.1, AL 1 (v0.2.1.map vI), AL 1 (v0.2.2.map vI)])] false rfl (con_impl_within e1003) c103_ok (by first | rfl | simp) rfl ?_
   refine qg (AB (!v1003)) rfl rfl (qp (AB (!v1003)) rfl (qp (AB (!v1003)) rfl ?_))
   refine q_case 31 hF rfl (fun hF => ?_) (fun hF => ?_)
   ·
    refine qn rfl (qn rfl (qn rfl (qp (AB true) rfl (qp (AB true) rfl (qn rfl (qn rfl (qn rfl ?_)))))))
    refine qp (AB true) rfl (qp (AB true) rfl (qn rfl (qn rfl (qn rfl (qp (AB true) rfl (qp (AB true) rfl ?_))))))
    refine r_nil ?_
    refine w_true rfl ?_
    refine ws 2240 2304 ?_
    refine qp (AI 2) rfl ?_
    refine r_nil ?_
    refine w_ret ?_
    refine blockQ_r ?_
    refine thenQ_r ?_
    cases hF
    exact eR
   ·
    refine qg (AI v3) rfl rfl ?_
    obtain ⟨v1004, e1004, hF⟩ := bind_get hF
    refine qcg (AB v1004) [(0, .box [AS v0.1, AL 1 (v0.2.1.map vI), AL 1 (v0.2.2.map vI)])] false rfl (con_impl_within e1004) c103_ok (by first | rfl | simp) rfl ?_
    refine qg (AB (!v1004)) rfl rfl (qp (AB (!v1004)) rfl (qp (AB (!v1004)) rfl ?_))
    refine q_case 36 hF rfl (fun hF => ?_) (fun hF => ?_)
    ·
     refine qn rfl (qn rfl (qn rfl (qp (AB true) rfl (qp (AB true) rfl (qn rfl (qn rfl (qn rfl ?_)))))))
     refine qp (AB true) rfl (qp (AB true) rfl ?_)
     refine r_nil ?_
     refine w_true rfl ?_
     refine ws 2240 2304 ?_
     refine qp (AI 2) rfl ?_
     refine r_nil ?_
     refine w_ret ?_
     refine blockQ_r ?_
     refine thenQ_r ?_
     cases hF
     exact eR
    ·
     refine qg (AI v4) rfl rfl ?_
     obtain ⟨v1005, e1005, hF⟩ := bind_get hF
     refine qcg (AB v1005) [(0, .box [AS v0.1, AL 1 (v0.2.1.map vI), AL 1 (v0.2.2.map vI)])] false rfl (con_impl_within e1005) c103_ok (by first | rfl | simp) rfl ?_
     refine qg (AB (!v1005)) rfl rfl (qp (AB (!v1005)) rfl (qp (AB (!v1005)) rfl ?_))
     refine q_case 41 hF rfl (fun hF => ?_) (fun hF => ?_)
     ·
      refine qn rfl (qn rfl (qn rfl (qp (AB true) rfl (qp (AB true) rfl ?_))))
      refine r_nil ?_
      refine w_true rfl ?_
      refine ws 2240 2304 ?_
      refine qp (AI 2) rfl ?_
      refine r_nil ?_
      refine w_ret ?_
      refine blockQ_r ?_
      refine thenQ_r ?_
      cases hF
      exact eR
     ·
      refine qg (AI v5) rfl rfl ?_
      obtain ⟨v1006, e1006, hF⟩ := bind_get hF
      refine qcg (AB v1006) [(0, .box [AS v0.1, AL 1 (v0.2.1.map vI), AL 1 (v0.2.2.map vI)])] false rfl (con_impl_within e1006) c103_ok (by first | rfl | simp) rfl ?_
      refine qg (AB (!v1006)) rfl rfl (qp (AB (!v1006)) rfl (qp (AB (!v1006)) rfl ?_))
      refine r_nil ?_
      refine cF hF (fun hF => ?_) fun hF => ?_
      ·
       refine ws 2240 2304 ?_
       refine qp (AI 2) rfl ?_
       refine r_nil ?_
       refine w_ret ?_
       refine blockQ_r ?_
       refine thenQ_r ?_
       cases hF
       exact eR
      ·
       refine w_skip ?_
       refine blockQ_n ?_
       refine thenQ_n ?_
       refine ws 2240 2304 ?_
       refine qp (AI 0) rfl ?_
       refine r_nil ?_
       refine w_ret ?_
       cases hF
       exact eR

def c161 : MC := (.seq (.reg [rg 1 (.f (.box (.t 0))), rg 2 (.p true (.mv (.c (.bool false))))]) (.seq (.reg [rg 3 (.p true (.fad (.t 1) 0)), rg 4 (.p true (.ld (.t 3) 1 false)), rg 5 (.call true 189 [(.t 4)]), mvt 6 5, ⟨(some 7), (some (6, true)), (.p true (.fad (.t 1) 1))⟩, ⟨(some 8), (some (6, true)), (.p true (.ld (.t 7) 1 false))⟩, ⟨(some 9), (some (6, true)), (.call true 103 [(.t 8), (.c (.int .i64 0)), (.c (.int .i64 10000))])⟩, rg 10 (.p true (.pick (.t 6) (.t 9) (.c (.bool false)))), mvt 11 10, ⟨(some 12), (some (11, true)), (.p true (.fad (.t 1) 2))⟩, ⟨(some 13), (some (11, true)), (.p true (.ld (.t 12) 1 false))⟩, ⟨(some 14), (some (11, true)), (.call true 103 [(.t 13), (.c (.int .i64 1)), (.c (.int .i64 10000))])⟩, rg 15 (.p true (.pick (.t 11) (.t 14) (.c (.bool false)))), mvt 2 15]) .ret))
theorem c161_is : compFn Try.prog 161 = some (c161, [(.tmp 2)]) := by kernel_rfl
theorem c161_ok : okFn Try.prog 161 = true := by kernel_rfl

noncomputable def F_impl_Turn_valid (v0 : TTurn) : Option (Bool) :=
 ((F_impl_IsName v0.1).bind fun v1000 => (bif v1000 then ((F_impl_within v0.2.1 0 10000).bind fun v1001 => (bif v1001 then ((F_impl_within v0.2.2 1 10000).bind fun v1002 => some v1002)
 else some false))
 else some false))
@[simp] def res_impl_Turn_valid (r : Bool) : RV := .one (.one (.val (.bool r)))
theorem con_impl_Turn_valid {v0 : TTurn} {r : Bool} (hF : F_impl_Turn_valid v0 = some r) : Con Try.prog 161 [eTurn v0] (res_impl_Turn_valid r) := by
 unfold F_impl_Turn_valid at hF
 refine con_of c161_is fun N => ?_
 refine ws 0 128 ?_
 refine qf (.ptr 0 0 0) [(0, .box [AS v0.1, AI v0.2.1, AI v0.2.2])] (by simp) ?_
 refine qp (AB false) rfl ?_
 refine r_nil ?_
 refine ws 128 1024 ?_
 refine qp (.ptr 0 0 0) rfl (qp (AS v0.1) rfl ?_)
 obtain ⟨v1000, e1000, hF⟩ := bind_get hF
 refine qc (AB v1000) [(0, .box [AS v0.1, AI v0.2.1, AI v0.2.2])] false (con_impl_IsName e1000) c189_ok (by first | rfl | simp) rfl ?_
 refine qp (AB v1000) rfl ?_
 refine q_case 6 hF rfl (fun hF => ?_) (fun hF => ?_)
 ·
  refine qg (.ptr 0 0 1) rfl rfl (qg (AI v0.2.1) rfl rfl ?_)
  obtain ⟨v1001, e1001, hF⟩ := bind_get hF
  refine qcg (AB v1001) [(0, .box [AS v0.1, AI v0.2.1, AI v0.2.2])] false rfl (con_impl_within e1001) c103_ok (by first | rfl | simp) rfl ?_
  refine qp (AB v1001) rfl (qp (AB v1001) rfl ?_)
  refine q_case 11 hF rfl (fun hF => ?_) (fun hF => ?_)
  ·
   refine qg (.ptr 0 0 2) rfl rfl (qg (AI v0.2.2) rfl rfl ?_)
   obtain ⟨v1002, e1002, hF⟩ := bind_get hF
   refine qcg (AB v1002) [(0, .box [AS v0.1, AI v0.2.1, AI v0.2.2])] false rfl (con_impl_within e1002) c103_ok (by first | rfl | simp) rfl ?_
   refine qp (AB v1002) rfl (qp (AB v1002) rfl ?_)
   refine r_nil ?_
   refine w_ret ?_
   cases hF
   exact eR
  ·
   refine qn rfl (qn rfl (qn rfl (qp (AB false) rfl (qp (AB false) rfl ?_))))
   refine r_nil ?_
   refine w_ret ?_
   cases hF
   exact eR
 ·
  refine qn rfl (qn rfl (qn rfl (qp (AB false) rfl (qp (AB false) rfl (qn rfl (qn rfl (qn rfl ?_)))))))
  refine qp (AB false) rfl (qp (AB false) rfl ?_)
  refine r_nil ?_
  refine w_ret ?_
  cases hF
  exact eR

def c276 : MC := (.seq (.reg [rg 2 (.p true (.mv (.c (.bool false))))]) (.seq (.reg [mvt 3 0, mvt 4 0, rg 5 (.p true (.bin .neq (.t 3) (.t 4))), mvt 2 5]) .ret))
theorem c276_is : compFn Try.prog 276 = some (c276, [(.tmp 2)]) := by kernel_rfl
theorem c276_ok : okFn Try.prog 276 = true := by kernel_rfl

noncomputable def F_cmp_isNaN_string (v0 : List UInt8) : Option (Bool) :=
 some (decide (v0 ≠ v0))
@[simp] def res_cmp_isNaN_string (r : Bool) : RV := .one (.one (.val (.bool r)))
theorem con_cmp_isNaN_string {v0 : List UInt8} {r : Bool} (hF : F_cmp_isNaN_string v0 = some r) : Con Try.prog 276 [.str v0] (res_cmp_isNaN_string r) := by
 unfold F_cmp_isNaN_string at hF
 refine con_of c276_is fun N => ?_
 refine ws 0 64 ?_
 refine qp (AB false) rfl ?_
 refine r_nil ?_
 refine ws 64 320 ?_
 refine qp (AS v0) rfl (qp (AS v0) rfl (qp (AB (decide (v0 ≠ v0))) rfl (qp (AB (decide (v0 ≠ v0))) rfl ?_)))
 refine r_nil ?_
 refine w_ret ?_
 cases hF
 exact eR

def c241 : MC := (.seq (.reg [rg 4 (.p true (.mv (.c (.int .i64 0))))]) (.seq (.reg [mvt 7 0, rg 8 (.call true 276 [(.t 7)]), mvt 5 8]) (.seq (.reg [mvt 9 1, rg 10 (.call true 276 [(.t 9)]), mvt 6 10]) (.seq (.seq (.reg [mvt 11 5]) (.cond (.t 11) (.seq (.seq (.reg [mvt 12 6]) (.cond (.t 12) (.seq (.reg [rg 4 (.p true (.mv (.c (.int .i64 0))))]) .ret) .skip)) (.seq (.reg [rg 4 (.p true (.mv (.c (.int .i64 (-1)))))]) .ret)) .skip)) (.seq (.seq (.reg [mvt 13 6]) (.cond (.t 13) (.seq (.reg [rg 4 (.p true (.mv (.c (.int .i64 1))))]) .ret) .skip)) (.seq (.seq (.reg [mvt 14 0, mvt 15 1, rg 16 (.p true (.bin .lss (.t 14) (.t 15)))]) (.cond (.t 16) (.seq (.reg [rg 4 (.p true (.mv (.c (.int .i64 (-1)))))]) .ret) .skip)) (.seq (.seq (.reg [mvt 17 0, mvt 18 1, rg 19 (.p true (.bin .gtr (.t 17) (.t 18)))]) (.cond (.t 19) (.seq (.reg [rg 4 (.p true (.mv (.c (.int .i64 1))))]) .ret) .skip)) (.seq (.reg [rg 4 (.p true (.mv (.c (.int .i64 0))))]) .ret))))))))
theorem c241_is : compFn Try.prog 241 = some (c241, [(.tmp 4)]) := by kernel_rfl
theorem c241_ok : okFn Try.prog 241 = true := by kernel_rfl

noncomputable def F_cmp_Compare_string (v0 : List UInt8) (v1 : List UInt8) : Option (Int) :=
 ((F_cmp_isNaN_string v0).bind fun v1000 => ((F_cmp_isNaN_string v1).bind fun v1001 => (bif v1000 then (bif v1001 then some 0
 else some (-1))
 else (bif v1001 then some 1
 else (bif (Op.bytesLess v0 v1) then some (-1)
 else (bif (!(Op.bytesLess v0 v1 || decide (v0 = v1))) then some 1
 else some 0))))))
@[simp] def res_cmp_Compare_string (r : Int) : RV := .one (.one (.val (.int .i64 r)))
theorem con_cmp_Compare_string {v0 : List UInt8} {v1 : List UInt8} {r : Int} (hF : F_cmp_Compare_string v0 v1 = some r) : Con Try.prog 241 [.str v0, .str v1] (res_cmp_Compare_string r) := by
 unfold F_cmp_Compare_string at hF
 refine con_of c241_is fun N => ?_
 refine ws 0 64 ?_
 refine qp (AI 0) rfl ?_
 refine r_nil ?_
 refine ws 64 256 ?_
 refine qp (AS v0) rfl ?_
 obtain ⟨v1000, e1000, hF⟩ := bind_get hF
 refine qc (AB v1000) [] false (con_cmp_isNaN_string e1000) c276_ok (by first | rfl | simp) rfl ?_
 refine qp (AB v1000) rfl ?_
 refine r_nil ?_
 refine ws 256 448 ?_
 refine qp (AS v1) rfl ?_
 obtain ⟨v1001, e1001, hF⟩ := bind_get hF
 refine qc (AB v1001) [] false (con_cmp_isNaN_string e1001) c276_ok (by first | rfl | simp) rfl ?_
 refine qp (AB v1001) rfl ?_
 refine r_nil ?_
 refine w_seq ?_
 refine ws 448 512 ?_
 refine qp (AB v1000) rfl ?_
 refine r_nil ?_
 refine cF hF (fun hF => ?_) fun hF => ?_
 ·
  refine w_seq ?_
  refine ws 512 576 ?_
  refine qp (AB v1001) rfl ?_
  refine r_nil ?_
  refine cF hF (fun hF => ?_) fun hF => ?_
  ·
   refine ws 576 640 ?_
   refine qp (AI 0) rfl ?_
   refine r_nil ?_
   refine w_ret ?_
   refine thenQ_r ?_
   refine thenQ_r ?_
   cases hF
   exact eR
  ·
   refine w_skip ?_
   refine thenQ_n ?_
   refine ws 576 640 ?_
   refine qp (AI (-1)) rfl ?_
   refine r_nil ?_
   refine w_ret ?_
   refine thenQ_r ?_
   cases hF
   exact eR
 ·
  refine w_skip ?_
  refine thenQ_n ?_
  refine w_seq ?_
  refine ws 512 576 ?_
  refine qp (AB v1001) rfl ?_
  refine r_nil ?_
  refine cF hF (fun hF => ?_) fun hF => ?_
  ·
   refine ws 576 640 ?_
   refine qp (AI 1) rfl ?_
   refine r_nil ?_
   refine w_ret ?_
   refine thenQ_r ?_
   cases hF
   exact eR
  ·
   refine w_skip ?_
   refine thenQ_n ?_
   refine w_seq ?_
   refine ws 576 768 ?_
   refine qp (AS v0) rfl (qp (AS v1) rfl (qp (AB (Op.bytesLess v0 v1)) rfl ?_))
   refine r_nil ?_
   refine cF hF (fun hF => ?_) fun hF => ?_
   ·
    refine ws 768 832 ?_
    refine qp (AI (-1)) rfl ?_
    refine r_nil ?_
    refine w_ret ?_
    refine thenQ_r ?_
    cases hF
    exact eR
   ·
    refine w_skip ?_
    refine thenQ_n ?_
    refine w_seq ?_
    refine ws 768 960 ?_
    refine qp (AS v0) rfl (qp (AS v1) rfl (qp (AB (!(Op.bytesLess v0 v1 || decide (v0 = v1)))) rfl ?_))
    refine r_nil ?_
    refine cF hF (fun hF => ?_) fun hF => ?_
    ·
     refine ws 960 1024 ?_
     refine qp (AI 1) rfl ?_
     refine r_nil ?_
     refine w_ret ?_
     refine thenQ_r ?_
     cases hF
     exact eR
    ·
     refine w_skip ?_
     refine thenQ_n ?_
     refine ws 960 1024 ?_
     refine qp (AI 0) rfl ?_
     refine r_nil ?_
     refine w_ret ?_
     cases hF
     exact eR

def c240 : MC := (.seq (.reg [rg 2 (.p true (.mv (.c (.int .i64 0))))]) (.seq (.reg [rg 3 (.p true (.mv (.c (.int .i64 0))))]) (.seq (.seq (.reg [mvt 6 0, rg 7 (.p true (.len (.t 6))), rg 8 (.p true (.mv (.c (.int .i64 0))))]) (.block 0 (.loop (.seq (.reg [rg 9 (.p true (.bin .lss (.t 8) (.t 7)))]) (.seq (.cond (.t 9) .skip (.exit 0)) (.seq (.block 1 (.seq (.reg [rg 10 (.p true (.iad (.t 6) (.t 8) 1)), rg 11 (.p true (.ld (.t 10) 1 false)), mvt 5 11]) (.seq (.reg [mvt 12 5, mvt 13 3, rg 14 (.p true (.bin .neq (.t 12) (.t 13)))]) (.cond (.t 14) (.seq (.reg [mvt 15 5, mvt 2 15]) .ret) .skip)))) (.reg [rg 16 (.p true (.bin .add (.t 8) (.c (.int .i64 1)))), mvt 8 16]))))))) (.seq (.reg [mvt 17 3, mvt 2 17]) .ret))))
theorem c240_is : compFn Try.prog 240 = some (c240, [(.tmp 2)]) := by kernel_rfl
theorem c240_ok : okFn Try.prog 240 = true := by kernel_rfl

noncomputable def F_cmp_Or_int_l0 (v0 : List Int) (k0 : Int → Option (Int)) : Int → Option (Int)
 | v4 => (bif (decide (v4 < (v0.length : Int))) then ((ix v0 v4).bind fun v1000 => (bif (decide (v1000 ≠ (0 : Int))) then some v1000
 else k0 (w64 (v4 + 1))))
 else some 0)
noncomputable def F_cmp_Or_int (v0 : List Int) : Option (Int) :=
 loop (F_cmp_Or_int_l0 v0) 0
@[simp] def res_cmp_Or_int (r : Int) : RV := .one (.one (.val (.int .i64 r)))
theorem con_cmp_Or_int {v0 : List Int} {r : Int} (hF : F_cmp_Or_int v0 = some r) : Con Try.prog 240 [.sl 1 (v0.map vI)] (res_cmp_Or_int r) := by
 unfold F_cmp_Or_int at hF
 refine con_of c240_is fun N => ?_
 refine ws 0 64 ?_
 refine qp (AI 0) rfl ?_
 refine r_nil ?_
 refine ws 64 128 ?_
 refine qp (AI 0) rfl ?_
 refine r_nil ?_
 refine w_seq ?_
 refine ws 128 320 ?_
 refine qp (AL 1 (v0.map vI)) rfl (qp (AI (v0.length : Int)) (ev_len_n rfl) (qp (AI 0) rfl ?_))
 refine r_nil ?_
 refine w_block ?_
 refine wr (l' := [(3, AI 0), (6, AL 1 (v0.map vI)), (7, AI (v0.length : Int)), (8, AI 0)]) (L := []) [3, 6, 7, 8] [] 1 ?_
 refine w_loopF (F_cmp_Or_int_l0 v0) (fun s : Int => mkS [(3, AI 0), (6, AL 1 (v0.map vI)), (7, AI (v0.length : Int)), (8, AI s)] (fo []) 1) hF ?_
 rintro k0 v4 hF
 rw [F_cmp_Or_int_l0] at hF
 try dsimp only
 refine ws 1 65 ?_
 refine qp (AB (decide (v4 < (v0.length : Int)))) rfl ?_
 refine r_nil ?_
 refine w_seq ?_
 refine cF hF (fun hF => ?_) fun hF => ?_
 ·
  refine w_skip ?_
  refine thenQ_n ?_
  refine w_seq ?_
  refine w_block ?_
  refine ws 65 257 ?_
  obtain ⟨v1000, e1000, hF⟩ := bind_get hF
  refine qp (.val none (.ptr [.int .i64 v1000])) (ev_iad_n rfl rfl e1000 rfl) (qp (AI v1000) rfl (qp (AI v1000) rfl ?_))
  refine r_nil ?_
  refine ws 257 449 ?_
  refine qp (AI v1000) rfl (qp (AI 0) rfl (qp (AB (decide (v1000 ≠ (0 : Int)))) rfl ?_))
  refine r_nil ?_
  refine cF hF (fun hF => ?_) fun hF => ?_
  ·
   refine ws 449 577 ?_
   refine qp (AI v1000) rfl (qp (AI v1000) rfl ?_)
   refine r_nil ?_
   refine w_ret ?_
   refine blockQ_r ?_
   refine thenQ_r ?_
   refine thenQ_r ?_
   refine blockQ_r ?_
   refine thenQ_r ?_
   cases hF
   exact eR
  ·
   refine w_skip ?_
   refine blockQ_n ?_
   refine thenQ_n ?_
   refine w_reg 449 577 rfl rfl ?_
   refine qp (AI (w64 (v4 + 1))) rfl (qp (AI (w64 (v4 + 1))) rfl ?_)
   refine r_nil ?_
   refine thenQ_n ?_
   refine ar (l' := [(3, AI 0), (6, AL 1 (v0.map vI)), (7, AI (v0.length : Int)), (8, AI (w64 (v4 + 1)))]) (L := []) [3, 6, 7, 8] [] 1 ⟨_, by rfl, hF⟩
 ·
  refine w_exit ?_
  refine thenQ_e ?_
  refine thenQ_e ?_
  refine blockQ_e ?_
  refine thenQ_n ?_
  refine ws 65 193 ?_
  refine qp (AI 0) rfl (qp (AI 0) rfl ?_)
  refine r_nil ?_
  refine w_ret ?_
  cases hF
  exact eR

def c162 : MC := (.seq (.reg [rg 2 (.f (.box (.t 0))), rg 3 (.f (.box (.t 1))), rg 4 (.p true (.mv (.c (.int .i64 0))))]) (.seq (.reg [rg 5 (.p false (.fad (.t 2) 1)), rg 6 (.p false (.ld (.t 5) 1 false)), rg 7 (.p false (.fad (.t 3) 1)), rg 8 (.p false (.ld (.t 7) 1 false)), rg 9 (.call false 120 [(.t 6), (.t 8)]), rg 10 (.p false (.fad (.t 2) 0)), rg 11 (.p false (.ld (.t 10) 1 false)), rg 12 (.p false (.fad (.t 3) 0)), rg 13 (.p false (.ld (.t 12) 1 false)), rg 14 (.call false 241 [(.t 11), (.t 13)]), rg 15 (.p false (.fad (.t 2) 2)), rg 16 (.p false (.ld (.t 15) 1 false)), rg 17 (.p false (.fad (.t 3) 2)), rg 18 (.p false (.ld (.t 17) 1 false)), rg 19 (.call false 120 [(.t 16), (.t 18)]), rg 20 (.f (.bsl 1 [(.t 9), (.t 14), (.t 19)])), rg 21 (.call false 240 [(.t 20)]), rg 4 (.p false (.mv (.t 21)))]) .ret))
theorem c162_is : compFn Try.prog 162 = some (c162, [(.tmp 4)]) := by kernel_rfl
theorem c162_ok : okFn Try.prog 162 = true := by kernel_rfl

noncomputable def F_impl_compareTurns (v0 : TTurn) (v1 : TTurn) : Option (Int) :=
 ((F_cmp_Compare_int64 v0.2.1 v1.2.1).bind fun v1000 => ((F_cmp_Compare_string v0.1 v1.1).bind fun v1001 => ((F_cmp_Compare_int64 v0.2.2 v1.2.2).bind fun v1002 => ((F_cmp_Or_int [v1000, v1001, v1002]).bind fun v1003 => some v1003))))
@[simp] def res_impl_compareTurns (r : Int) : RV := .one (.one (.val (.int .i64 r)))
theorem con_impl_compareTurns {v0 : TTurn} {v1 : TTurn} {r : Int} (hF : F_impl_compareTurns v0 v1 = some r) : Con Try.prog 162 [eTurn v0, eTurn v1] (res_impl_compareTurns r) := by
 unfold F_impl_compareTurns at hF
 refine con_of c162_is fun N => ?_
 refine ws 0 192 ?_
 refine qf (.ptr 0 0 0) [(0, .box [AS v0.1, AI v0.2.1, AI v0.2.2])] (by simp) ?_
 refine qf (.ptr 64 0 0) [(64, .box [AS v1.1, AI v1.2.1, AI v1.2.2]), (0, .box [AS v0.1, AI v0.2.1, AI v0.2.2])] (by simp) ?_
 refine qp (AI 0) rfl ?_
 refine r_nil ?_
 refine ws 192 1344 ?_
 refine qp (.ptr 0 0 1) rfl (qp (AI v0.2.1) rfl (qp (.ptr 64 0 1) rfl (qp (AI v1.2.1) rfl ?_)))
 obtain ⟨v1000, e1000, hF⟩ := bind_get hF
 refine qc (AI v1000) [(64, .box [AS v1.1, AI v1.2.1, AI v1.2.2]), (0, .box [AS v0.1, AI v0.2.1, AI v0.2.2])] false (con_cmp_Compare_int64 e1000) c120_ok (by first | rfl | simp) rfl ?_
 refine qp (.ptr 0 0 0) rfl (qp (AS v0.1) rfl (qp (.ptr 64 0 0) rfl (qp (AS v1.1) rfl ?_)))
 obtain ⟨v1001, e1001, hF⟩ := bind_get hF
 refine qc (AI v1001) [(64, .box [AS v1.1, AI v1.2.1, AI v1.2.2]), (0, .box [AS v0.1, AI v0.2.1, AI v0.2.2])] false (con_cmp_Compare_string e1001) c241_ok (by first | rfl | simp) rfl ?_
 refine qp (.ptr 0 0 2) rfl (qp (AI v0.2.2) rfl (qp (.ptr 64 0 2) rfl (qp (AI v1.2.2) rfl ?_)))
 obtain ⟨v1002, e1002, hF⟩ := bind_get hF
 refine qc (AI v1002) [(64, .box [AS v1.1, AI v1.2.1, AI v1.2.2]), (0, .box [AS v0.1, AI v0.2.1, AI v0.2.2])] false (con_cmp_Compare_int64 e1002) c120_ok (by first | rfl | simp) rfl ?_
 refine qf (.sl 1152 0 ([v1000, v1001, v1002].length)) [(1152, .row true 1 ([v1000, v1001, v1002].map vI)), (64, .box [AS v1.1, AI v1.2.1, AI v1.2.2]), (0, .box [AS v0.1, AI v0.2.1, AI v0.2.2])] (by simp [List.take_of_length_le]) ?_
 obtain ⟨v1003, e1003, hF⟩ := bind_get hF
 refine qc (AI v1003) [(1152, .row true 1 ([v1000, v1001, v1002].map vI)), (64, .box [AS v1.1, AI v1.2.1, AI v1.2.2]), (0, .box [AS v0.1, AI v0.2.1, AI v0.2.2])] true (con_cmp_Or_int e1003) c240_ok (by simp [List.take_of_length_le]) rfl ?_
 refine qp (AI v1003) rfl ?_
 refine r_nil ?_
 refine w_ret ?_
 cases hF
 exact eR

def c52 : MC := (.seq (.reg [rg 2 (.p true (.mv (.c (.bool false))))]) (.seq (.seq (.reg [mvt 5 0, rg 6 (.p true (.len (.t 5))), rg 7 (.p true (.bin .gtr (.t 6) (.c (.int .i64 24))))]) (.cond (.t 7) (.seq (.reg [rg 2 (.p true (.mv (.c (.bool false))))]) .ret) .skip)) (.seq (.seq (.reg [mvt 8 0, rg 9 (.p true (.len (.t 8))), rg 10 (.p true (.mv (.c (.int .i64 0))))]) (.block 0 (.loop (.seq (.reg [rg 11 (.p true (.bin .lss (.t 10) (.t 9)))]) (.seq (.cond (.t 11) .skip (.exit 0)) (.seq (.block 1 (.seq (.reg [mvt 12 10, rg 13 (.p true (.iad (.t 8) (.t 10) 3)), rg 14 (.p true (.ld (.t 13) 3 true)), rg 4 (.f (.alloc [((.str []), (0, false)), ((.int .i64 0), (0, false)), ((.int .i64 0), (0, false))])), mvt 3 12, ⟨none, none, (.f (.st (.t 4) (.t 14) 3))⟩]) (.seq (.reg [rg 15 (.p false (.ld (.t 4) 3 true)), rg 16 (.call false 161 [(.t 15)]), rg 17 (.p false (.not (.t 16))), rg 18 (.p false (.mv (.t 17))), ⟨(some 19), (some (18, false)), (.p false (.mv (.t 3)))⟩, ⟨(some 20), (some (18, false)), (.p false (.bin .gtr (.t 19) (.c (.int .i64 0))))⟩, ⟨(some 21), (some (18, false)), (.p false (.mv (.t 20)))⟩, ⟨(some 22), (some (21, true)), (.p false (.mv (.t 0)))⟩, ⟨(some 23), (some (21, true)), (.p false (.mv (.t 3)))⟩, ⟨(some 24), (some (21, true)), (.p false (.bin .sub (.t 23) (.c (.int .i64 1))))⟩, ⟨(some 25), (some (21, true)), (.p false (.iad (.t 22) (.t 24) 3))⟩, ⟨(some 26), (some (21, true)), (.p false (.ld (.t 25) 3 true))⟩, ⟨(some 27), (some (21, true)), (.p false (.ld (.t 4) 3 true))⟩, ⟨(some 28), (some (21, true)), (.call false 162 [(.t 26), (.t 27)])⟩, ⟨(some 29), (some (21, true)), (.p false (.bin .geq (.t 28) (.c (.int .i64 0))))⟩, ⟨(some 30), (some (18, false)), (.p false (.pick (.t 21) (.t 29) (.c (.bool false))))⟩, rg 31 (.p false (.pick (.t 18) (.c (.bool true)) (.t 30)))]) (.cond (.t 31) (.seq (.reg [rg 2 (.p true (.mv (.c (.bool false))))]) .ret) .skip)))) (.reg [rg 32 (.p true (.bin .add (.t 10) (.c (.int .i64 1)))), mvt 10 32]))))))) (.seq (.reg [rg 2 (.p true (.mv (.c (.bool true))))]) .ret))))
theorem c52_is : compFn Try.prog 52 = some (c52, [(.tmp 2)]) := by kernel_rfl
theorem c52_ok : okFn Try.prog 52 = true := by kernel_rfl

noncomputable def F_impl_ValidTurns_l0 (v0 : List TTurn) (k0 : Int → Option (Bool)) : Int → Option (Bool)
 | v10 => (bif (decide (v10 < (v0.length : Int))) then ((ix v0 v10).bind fun v1000 => ((F_impl_Turn_valid v1000).bind fun v1001 => (bif (!v1001) then some false
 else (bif (decide ((0 : Int) < v10)) then ((ix v0 (w64 (v10 - 1))).bind fun v1002 => ((F_impl_compareTurns v1002 v1000).bind fun v1003 => (bif (decide ((0 : Int) ≤ v1003)) then some false
 else k0 (w64 (v10 + 1)))))
 else k0 (w64 (v10 + 1))))))
 else some true)
noncomputable def F_impl_ValidTurns (v0 : List TTurn) : Option (Bool) :=
 (bif (decide ((24 : Int) < (v0.length : Int))) then some false
 else loop (F_impl_ValidTurns_l0 v0) 0)
@[simp] def res_impl_ValidTurns (r : Bool) : RV := .one (.one (.val (.bool r)))
theorem con_impl_ValidTurns {v0 : List TTurn} {r : Bool} (hF : F_impl_ValidTurns v0 = some r) : Con Try.prog 52 [.sl 3 (v0.map eTurn)] (res_impl_ValidTurns r) := by
 unfold F_impl_ValidTurns at hF
 refine con_of c52_is fun N => ?_
 refine ws 0 64 ?_
 refine qp (AB false) rfl ?_
 refine r_nil ?_
 refine w_seq ?_
 refine ws 64 256 ?_
 refine qp (AL 3 (v0.map eTurn)) rfl (qp (AI (v0.length : Int)) (ev_len_n rfl) (qp (AB (decide ((24 : Int) < (v0.length : Int)))) rfl ?_))
 refine r_nil ?_
 refine cF hF (fun hF => ?_) fun hF => ?_
 ·
  refine ws 256 320 ?_
  refine qp (AB false) rfl ?_
  refine r_nil ?_
  refine w_ret ?_
  refine thenQ_r ?_
  cases hF
  exact eR
 ·
  refine w_skip ?_
  refine thenQ_n ?_
  refine w_seq ?_
  refine ws 256 448 ?_
  refine qp (AL 3 (v0.map eTurn)) rfl (qp (AI (v0.length : Int)) (ev_len_n rfl) (qp (AI 0) rfl ?_))
  refine r_nil ?_
  refine w_block ?_
  refine wr (l' := [(0, AL 3 (v0.map eTurn)), (8, AL 3 (v0.map eTurn)), (9, AI (v0.length : Int)), (10, AI 0)]) (L := []) [0, 8, 9, 10] [] 1 ?_
  refine w_loopF (F_impl_ValidTurns_l0 v0) (fun s : Int => mkS [(0, AL 3 (v0.map eTurn)), (8, AL 3 (v0.map eTurn)), (9, AI (v0.length : Int)), (10, AI s)] (fo []) 1) hF ?_
  rintro k0 v10 hF
  rw [F_impl_ValidTurns_l0] at hF
  try dsimp only
  refine ws 1 65 ?_
  refine qp (AB (decide (v10 < (v0.length : Int)))) rfl ?_
  refine r_nil ?_
  refine w_seq ?_
  refine cF hF (fun hF => ?_) fun hF => ?_
  ·
   refine w_skip ?_
   refine thenQ_n ?_
   refine w_seq ?_
   refine w_block ?_
   refine ws 65 449 ?_
   refine qp (AI v10) rfl ?_
   obtain ⟨v1000, e1000, hF⟩ := bind_get hF
   refine qp (.val none (.ptr [.str v1000.1, .int .i64 v1000.2.1, .int .i64 v1000.2.2])) (ev_iad_n rfl rfl e1000 rfl) (qp (.val none (eTurn v1000)) rfl ?_)
   refine qf (.ptr 257 0 0) [(257, .box [AS [], AI 0, AI 0])] (by simp) ?_
   refine qp (AI v10) rfl ?_
   refine qf0 (.undef) [(257, .box [AS v1000.1, AI v1000.2.1, AI v1000.2.2]), (257, .box [AS [], AI 0, AI 0])] (by simp) ?_
   refine r_nil ?_
   refine ws 449 1537 ?_
   refine qp (.agg [AS v1000.1, AI v1000.2.1, AI v1000.2.2]) rfl ?_
   obtain ⟨v1001, e1001, hF⟩ := bind_get hF
   refine qc (AB v1001) [(257, .box [AS v1000.1, AI v1000.2.1, AI v1000.2.2]), (257, .box [AS [], AI 0, AI 0])] false (con_impl_Turn_valid e1001) c161_ok (by first | rfl | simp) rfl ?_
   refine qp (AB (!v1001)) rfl (qp (AB (!v1001)) rfl ?_)
   refine q_case 18 hF rfl (fun hF => ?_) (fun hF => ?_)
   ·
    refine qn rfl (qn rfl (qn rfl (qu rfl (qu rfl (qu rfl (qu rfl (qu rfl ?_)))))))
    refine qu rfl (qu rfl (qu rfl (qn rfl (qp (AB true) rfl ?_))))
    refine r_nil ?_
    refine w_true rfl ?_
    refine ws 1537 1601 ?_
    refine qp (AB false) rfl ?_
    refine r_nil ?_
    refine w_ret ?_
    refine blockQ_r ?_
    refine thenQ_r ?_
    refine thenQ_r ?_
    refine blockQ_r ?_
    refine thenQ_r ?_
    cases hF
    exact eR
   ·
    refine qg (AI v10) rfl rfl (qg (AB (decide ((0 : Int) < v10))) rfl rfl (qg (AB (decide ((0 : Int) < v10))) rfl rfl ?_))
    refine q_case 21 hF rfl (fun hF => ?_) (fun hF => ?_)
    ·
     refine qg (AL 3 (v0.map eTurn)) rfl rfl (qg (AI v10) rfl rfl (qg (AI (w64 (v10 - 1))) rfl rfl ?_))
     obtain ⟨v1002, e1002, hF⟩ := bind_get hF
     refine qg (.val none (.ptr [.str v1002.1, .int .i64 v1002.2.1, .int .i64 v1002.2.2])) rfl (ev_iad_n rfl rfl e1002 rfl) (qg (.val none (eTurn v1002)) rfl rfl (qg (.agg [AS v1000.1, AI v1000.2.1, AI v1000.2.2]) rfl rfl ?_))
     obtain ⟨v1003, e1003, hF⟩ := bind_get hF
     refine qcg (AI v1003) [(257, .box [AS v1000.1, AI v1000.2.1, AI v1000.2.2]), (257, .box [AS [], AI 0, AI 0])] false rfl (con_impl_compareTurns e1003) c162_ok (by first | rfl | simp) rfl ?_
     refine qg (AB (decide ((0 : Int) ≤ v1003))) rfl rfl (qg (AB (decide ((0 : Int) ≤ v1003))) rfl rfl (qp (AB (decide ((0 : Int) ≤ v1003))) rfl ?_))
     refine r_nil ?_
     refine cF hF (fun hF => ?_) fun hF => ?_
     ·
      refine ws 1537 1601 ?_
      refine qp (AB false) rfl ?_
      refine r_nil ?_
      refine w_ret ?_
      refine blockQ_r ?_
      refine thenQ_r ?_
      refine thenQ_r ?_
      refine blockQ_r ?_
      refine thenQ_r ?_
      cases hF
      exact eR
     ·
      refine w_skip ?_
      refine blockQ_n ?_
      refine thenQ_n ?_
      refine w_reg 1537 1665 rfl rfl ?_
      refine qp (AI (w64 (v10 + 1))) rfl (qp (AI (w64 (v10 + 1))) rfl ?_)
      refine r_nil ?_
      refine thenQ_n ?_
      refine ar (l' := [(0, AL 3 (v0.map eTurn)), (8, AL 3 (v0.map eTurn)), (9, AI (v0.length : Int)), (10, AI (w64 (v10 + 1)))]) (L := []) [0, 8, 9, 10] [] 1 ⟨_, by rfl, hF⟩
    ·
     refine qn rfl (qn rfl (qn rfl (qn rfl (qn rfl (qn rfl (qn rfl (qn rfl ?_)))))))
     refine qg (AB false) rfl rfl (qp (AB false) rfl ?_)
     refine r_nil ?_
     refine w_false rfl ?_
     refine w_skip ?_
     refine blockQ_n ?_
     refine thenQ_n ?_
     refine w_reg 1537 1665 rfl rfl ?_
     refine qp (AI (w64 (v10 + 1))) rfl (qp (AI (w64 (v10 + 1))) rfl ?_)
     refine r_nil ?_
     refine thenQ_n ?_
     refine ar (l' := [(0, AL 3 (v0.map eTurn)), (8, AL 3 (v0.map eTurn)), (9, AI (v0.length : Int)), (10, AI (w64 (v10 + 1)))]) (L := []) [0, 8, 9, 10] [] 1 ⟨_, by rfl, hF⟩
  ·
   refine w_exit ?_
   refine thenQ_e ?_
   refine thenQ_e ?_
   refine blockQ_e ?_
   refine thenQ_n ?_
   refine ws 65 129 ?_
   refine qp (AB true) rfl ?_
   refine r_nil ?_
   refine w_ret ?_
   cases hF
   exact eR

def c11 : MC := (.seq (.reg [rg 1 (.f (.box (.t 0))), rg 2 (.p true (.mv (.c (.bool false))))]) (.seq (.reg [rg 6 (.p true (.fad (.t 1) 0)), rg 7 (.p true (.ld (.t 6) 6 true)), rg 8 (.p true (.fad (.t 1) 6)), rg 9 (.p true (.ld (.t 8) 1 false)), rg 10 (.p true (.fad (.t 1) 7)), rg 11 (.p true (.ld (.t 10) 1 false)), rg 12 (.call true 49 [(.t 7), (.t 9), (.t 11)]), mvt 5 12, rg 13 (.p true (.ext (.t 5) 0)), rg 14 (.p true (.ext (.t 5) 1)), rg 3 (.f (.alloc [((.int .i64 0), (0, false)), ((.int .i64 0), (0, false)), ((.sl 0 []), (1, false)), ((.sl 0 []), (3, false))])), ⟨none, none, (.f (.st (.t 3) (.t 13) 4))⟩, mvt 4 14]) (.seq (.reg [mvt 15 4, rg 16 (.p true (.bin .eql (.t 15) (.c (.int .i64 0)))), mvt 17 16, ⟨(some 18), (some (17, true)), (.p true (.fad (.t 1) 8))⟩, ⟨(some 19), (some (17, true)), (.p true (.ld (.t 18) 1 false))⟩, ⟨(some 20), (some (17, true)), (.call true 50 [(.t 19)])⟩, rg 21 (.p true (.pick (.t 17) (.t 20) (.c (.bool false)))), mvt 22 21, ⟨(some 23), (some (22, true)), (.p true (.fad (.t 1) 9))⟩, ⟨(some 24), (some (22, true)), (.p true (.ld (.t 23) 3 true))⟩, ⟨(some 25), (some (22, true)), (.p true (.fad (.t 1) 12))⟩, ⟨(some 26), (some (22, true)), (.p true (.ld (.t 25) 1 false))⟩, ⟨(some 27), (some (22, true)), (.p true (.fad (.t 1) 14))⟩, ⟨(some 28), (some (22, true)), (.p true (.ld (.t 27) 1 false))⟩, ⟨(some 29), (some (22, true)), (.p true (.fad (.t 1) 15))⟩, ⟨(some 30), (some (22, true)), (.p true (.ld (.t 29) 1 false))⟩, ⟨(some 31), (some (22, true)), (.p true (.fad (.t 1) 16))⟩, ⟨(some 32), (some (22, true)), (.p true (.ld (.t 31) 1 false))⟩, ⟨(some 33), (some (22, true)), (.call true 51 [(.t 24), (.t 26), (.t 28), (.t 30), (.t 32), (.c (.int .i64 0))])⟩, ⟨(some 34), (some (22, true)), (.p true (.bin .eql (.t 33) (.c (.int .i64 0))))⟩, rg 35 (.p true (.pick (.t 22) (.t 34) (.c (.bool false)))), mvt 36 35, ⟨(some 37), (some (36, true)), (.p true (.fad (.t 1) 17))⟩, ⟨(some 38), (some (36, true)), (.p true (.ld (.t 37) 1 false))⟩, ⟨(some 39), (some (36, true)), (.call true 52 [(.t 38)])⟩, rg 40 (.p true (.pick (.t 36) (.t 39) (.c (.bool false)))), mvt 2 40]) .ret)))
theorem c11_is : compFn Try.prog 11 = some (c11, [(.tmp 2)]) := by kernel_rfl
theorem c11_ok : okFn Try.prog 11 = true := by kernel_rfl

noncomputable def F_impl_ValidWork (v0 : TWork) : Option (Bool) :=
 ((F_impl_GrammarOf (v0.1, v0.2.1, v0.2.2.1, v0.2.2.2.1, v0.2.2.2.2.1, v0.2.2.2.2.2.1) v0.2.2.2.2.2.2.1 v0.2.2.2.2.2.2.2.1).bind fun v1000 => (bif (decide (v1000.2 = (0 : Int))) then ((F_impl_ValidMelody v0.2.2.2.2.2.2.2.2.1).bind fun v1001 => (bif v1001 then ((F_impl_cadenceCode (v0.2.2.2.2.2.2.2.2.2.1, v0.2.2.2.2.2.2.2.2.2.2.1, v0.2.2.2.2.2.2.2.2.2.2.2.1) v0.2.2.2.2.2.2.2.2.2.2.2.2.1 v0.2.2.2.2.2.2.2.2.2.2.2.2.2.2.1 v0.2.2.2.2.2.2.2.2.2.2.2.2.2.2.2.1 v0.2.2.2.2.2.2.2.2.2.2.2.2.2.2.2.2.1 0).bind fun v1002 => (bif (decide (v1002 = (0 : Int))) then ((F_impl_ValidTurns v0.2.2.2.2.2.2.2.2.2.2.2.2.2.2.2.2.2).bind fun v1003 => some v1003)
 else some false))
 else some false))
 else some false))
@[simp] def res_impl_ValidWork (r : Bool) : RV := .one (.one (.val (.bool r)))
theorem con_impl_ValidWork {v0 : TWork} {r : Bool} (hF : F_impl_ValidWork v0 = some r) : Con Try.prog 11 [eWork v0] (res_impl_ValidWork r) := by
 unfold F_impl_ValidWork at hF
 refine con_of c11_is fun N => ?_
 refine ws 0 128 ?_
 refine qf (.ptr 0 0 0) [(0, .box [AS v0.1, AL 1 (v0.2.1.map vI), AL 1 (v0.2.2.1.map vI), AI v0.2.2.2.1, AI v0.2.2.2.2.1, AL 1 (v0.2.2.2.2.2.1.map (eL 1 vI)), AI v0.2.2.2.2.2.2.1, AI v0.2.2.2.2.2.2.2.1, AL 2 (v0.2.2.2.2.2.2.2.2.1.map eNote), AS v0.2.2.2.2.2.2.2.2.2.1, AL 1 (v0.2.2.2.2.2.2.2.2.2.2.1.map vI), AL 1 (v0.2.2.2.2.2.2.2.2.2.2.2.1.map vI), AI v0.2.2.2.2.2.2.2.2.2.2.2.2.1, AS v0.2.2.2.2.2.2.2.2.2.2.2.2.2.1, AI v0.2.2.2.2.2.2.2.2.2.2.2.2.2.2.1, AI v0.2.2.2.2.2.2.2.2.2.2.2.2.2.2.2.1, AI v0.2.2.2.2.2.2.2.2.2.2.2.2.2.2.2.2.1, AL 3 (v0.2.2.2.2.2.2.2.2.2.2.2.2.2.2.2.2.2.map eTurn)])] (by simp) ?_
 refine qp (AB false) rfl ?_
 refine r_nil ?_
 refine ws 128 960 ?_
 refine qp (.ptr 0 0 0) rfl (qp (.agg [AS v0.1, AL 1 (v0.2.1.map vI), AL 1 (v0.2.2.1.map vI), AI v0.2.2.2.1, AI v0.2.2.2.2.1, AL 1 (v0.2.2.2.2.2.1.map (eL 1 vI))]) rfl (qp (.ptr 0 0 6) rfl (qp (AI v0.2.2.2.2.2.2.1) rfl (qp (.ptr 0 0 7) rfl (qp (AI v0.2.2.2.2.2.2.2.1) rfl ?_)))))
 obtain ⟨v1000, e1000, hF⟩ := bind_get hF
 refine qc (.tup [.agg [AI v1000.1.1, AI v1000.1.2.1, .sl 514 0 v1000.1.2.2.1.length, .sl 515 0 v1000.1.2.2.2.length], AI v1000.2]) [(515, .row true 3 (v1000.1.2.2.2.map eArc)), (514, .row true 1 (v1000.1.2.2.1.map vI)), (0, .box [AS v0.1, AL 1 (v0.2.1.map vI), AL 1 (v0.2.2.1.map vI), AI v0.2.2.2.1, AI v0.2.2.2.2.1, AL 1 (v0.2.2.2.2.2.1.map (eL 1 vI)), AI v0.2.2.2.2.2.2.1, AI v0.2.2.2.2.2.2.2.1, AL 2 (v0.2.2.2.2.2.2.2.2.1.map eNote), AS v0.2.2.2.2.2.2.2.2.2.1, AL 1 (v0.2.2.2.2.2.2.2.2.2.2.1.map vI), AL 1 (v0.2.2.2.2.2.2.2.2.2.2.2.1.map vI), AI v0.2.2.2.2.2.2.2.2.2.2.2.2.1, AS v0.2.2.2.2.2.2.2.2.2.2.2.2.2.1, AI v0.2.2.2.2.2.2.2.2.2.2.2.2.2.2.1, AI v0.2.2.2.2.2.2.2.2.2.2.2.2.2.2.2.1, AI v0.2.2.2.2.2.2.2.2.2.2.2.2.2.2.2.2.1, AL 3 (v0.2.2.2.2.2.2.2.2.2.2.2.2.2.2.2.2.2.map eTurn)])] false (con_impl_GrammarOf e1000) c49_ok (by first | rfl | simp) (by simp [res_impl_GrammarOf]) ?_
 refine qp (.tup [.agg [AI v1000.1.1, AI v1000.1.2.1, .sl 514 0 v1000.1.2.2.1.length, .sl 515 0 v1000.1.2.2.2.length], AI v1000.2]) rfl (qp (.agg [AI v1000.1.1, AI v1000.1.2.1, .sl 514 0 v1000.1.2.2.1.length, .sl 515 0 v1000.1.2.2.2.length]) rfl (qp (AI v1000.2) rfl ?_))
 refine qf (.ptr 768 0 0) [(768, .box [AI 0, AI 0, .sl 769 0 0, .sl 770 0 0]), (770, .row true 3 (([] : List Int).map vI)), (769, .row true 1 (([] : List Int).map vI)), (515, .row true 3 (v1000.1.2.2.2.map eArc)), (514, .row true 1 (v1000.1.2.2.1.map vI)), (0, .box [AS v0.1, AL 1 (v0.2.1.map vI), AL 1 (v0.2.2.1.map vI), AI v0.2.2.2.1, AI v0.2.2.2.2.1, AL 1 (v0.2.2.2.2.2.1.map (eL 1 vI)), AI v0.2.2.2.2.2.2.1, AI v0.2.2.2.2.2.2.2.1, AL 2 (v0.2.2.2.2.2.2.2.2.1.map eNote), AS v0.2.2.2.2.2.2.2.2.2.1, AL 1 (v0.2.2.2.2.2.2.2.2.2.2.1.map vI), AL 1 (v0.2.2.2.2.2.2.2.2.2.2.2.1.map vI), AI v0.2.2.2.2.2.2.2.2.2.2.2.2.1, AS v0.2.2.2.2.2.2.2.2.2.2.2.2.2.1, AI v0.2.2.2.2.2.2.2.2.2.2.2.2.2.2.1, AI v0.2.2.2.2.2.2.2.2.2.2.2.2.2.2.2.1, AI v0.2.2.2.2.2.2.2.2.2.2.2.2.2.2.2.2.1, AL 3 (v0.2.2.2.2.2.2.2.2.2.2.2.2.2.2.2.2.2.map eTurn)])] (by simp) ?_
 refine qf0 (.undef) [(768, .box [AI v1000.1.1, AI v1000.1.2.1, .sl 514 0 v1000.1.2.2.1.length, .sl 515 0 v1000.1.2.2.2.length]), (768, .box [AI 0, AI 0, .sl 769 0 0, .sl 770 0 0]), (770, .row true 3 (([] : List Int).map vI)), (769, .row true 1 (([] : List Int).map vI)), (515, .row true 3 (v1000.1.2.2.2.map eArc)), (514, .row true 1 (v1000.1.2.2.1.map vI)), (0, .box [AS v0.1, AL 1 (v0.2.1.map vI), AL 1 (v0.2.2.1.map vI), AI v0.2.2.2.1, AI v0.2.2.2.2.1, AL 1 (v0.2.2.2.2.2.1.map (eL 1 vI)), AI v0.2.2.2.2.2.2.1, AI v0.2.2.2.2.2.2.2.1, AL 2 (v0.2.2.2.2.2.2.2.2.1.map eNote), AS v0.2.2.2.2.2.2.2.2.2.1, AL 1 (v0.2.2.2.2.2.2.2.2.2.2.1.map vI), AL 1 (v0.2.2.2.2.2.2.2.2.2.2.2.1.map vI), AI v0.2.2.2.2.2.2.2.2.2.2.2.2.1, AS v0.2.2.2.2.2.2.2.2.2.2.2.2.2.1, AI v0.2.2.2.2.2.2.2.2.2.2.2.2.2.2.1, AI v0.2.2.2.2.2.2.2.2.2.2.2.2.2.2.2.1, AI v0.2.2.2.2.2.2.2.2.2.2.2.2.2.2.2.2.1, AL 3 (v0.2.2.2.2.2.2.2.2.2.2.2.2.2.2.2.2.2.map eTurn)])] (by simp) ?_
 refine qp (AI v1000.2) rfl ?_
 refine r_nil ?_
 refine ws 960 2688 ?_
 refine qp (AI v1000.2) rfl (qp (AB (decide (v1000.2 = (0 : Int)))) rfl (qp (AB (decide (v1000.2 = (0 : Int)))) rfl ?_))
 refine q_case 17 hF rfl (fun hF => ?_) (fun hF => ?_)
 ·
  refine qg (.ptr 0 0 8) rfl rfl (qg (AL 2 (v0.2.2.2.2.2.2.2.2.1.map eNote)) rfl rfl ?_)
  obtain ⟨v1001, e1001, hF⟩ := bind_get hF
  refine qcg (AB v1001) [(768, .box [AI v1000.1.1, AI v1000.1.2.1, .sl 514 0 v1000.1.2.2.1.length, .sl 515 0 v1000.1.2.2.2.length]), (768, .box [AI 0, AI 0, .sl 769 0 0, .sl 770 0 0]), (770, .row true 3 (([] : List Int).map vI)), (769, .row true 1 (([] : List Int).map vI)), (515, .row true 3 (v1000.1.2.2.2.map eArc)), (514, .row true 1 (v1000.1.2.2.1.map vI)), (0, .box [AS v0.1, AL 1 (v0.2.1.map vI), AL 1 (v0.2.2.1.map vI), AI v0.2.2.2.1, AI v0.2.2.2.2.1, AL 1 (v0.2.2.2.2.2.1.map (eL 1 vI)), AI v0.2.2.2.2.2.2.1, AI v0.2.2.2.2.2.2.2.1, AL 2 (v0.2.2.2.2.2.2.2.2.1.map eNote), AS v0.2.2.2.2.2.2.2.2.2.1, AL 1 (v0.2.2.2.2.2.2.2.2.2.2.1.map vI), AL 1 (v0.2.2.2.2.2.2.2.2.2.2.2.1.map vI), AI v0.2.2.2.2.2.2.2.2.2.2.2.2.1, AS v0.2.2.2.2.2.2.2.2.2.2.2.2.2.1, AI v0.2.2.2.2.2.2.2.2.2.2.2.2.2.2.1, AI v0.2.2.2.2.2.2.2.2.2.2.2.2.2.2.2.1, AI v0.2.2.2.2.2.2.2.2.2.2.2.2.2.2.2.2.1, AL 3 (v0.2.2.2.2.2.2.2.2.2.2.2.2.2.2.2.2.2.map eTurn)])] false rfl (con_impl_ValidMelody e1001) c50_ok (by first | rfl | simp) rfl ?_
  refine qp (AB v1001) rfl (qp (AB v1001) rfl ?_)
  refine q_case 22 hF rfl (fun hF => ?_) (fun hF => ?_)
  ·
   refine qg (.ptr 0 0 9) rfl rfl (qg (.agg [AS v0.2.2.2.2.2.2.2.2.2.1, AL 1 (v0.2.2.2.2.2.2.2.2.2.2.1.map vI), AL 1 (v0.2.2.2.2.2.2.2.2.2.2.2.1.map vI)]) rfl rfl (qg (.ptr 0 0 12) rfl rfl (qg (AI v0.2.2.2.2.2.2.2.2.2.2.2.2.1) rfl rfl (qg (.ptr 0 0 14) rfl rfl (qg (AI v0.2.2.2.2.2.2.2.2.2.2.2.2.2.2.1) rfl rfl (qg (.ptr 0 0 15) rfl rfl (qg (AI v0.2.2.2.2.2.2.2.2.2.2.2.2.2.2.2.1) rfl rfl ?_)))))))
   refine qg (.ptr 0 0 16) rfl rfl (qg (AI v0.2.2.2.2.2.2.2.2.2.2.2.2.2.2.2.2.1) rfl rfl ?_)
   obtain ⟨v1002, e1002, hF⟩ := bind_get hF
   refine qcg (AI v1002) [(768, .box [AI v1000.1.1, AI v1000.1.2.1, .sl 514 0 v1000.1.2.2.1.length, .sl 515 0 v1000.1.2.2.2.length]), (768, .box [AI 0, AI 0, .sl 769 0 0, .sl 770 0 0]), (770, .row true 3 (([] : List Int).map vI)), (769, .row true 1 (([] : List Int).map vI)), (515, .row true 3 (v1000.1.2.2.2.map eArc)), (514, .row true 1 (v1000.1.2.2.1.map vI)), (0, .box [AS v0.1, AL 1 (v0.2.1.map vI), AL 1 (v0.2.2.1.map vI), AI v0.2.2.2.1, AI v0.2.2.2.2.1, AL 1 (v0.2.2.2.2.2.1.map (eL 1 vI)), AI v0.2.2.2.2.2.2.1, AI v0.2.2.2.2.2.2.2.1, AL 2 (v0.2.2.2.2.2.2.2.2.1.map eNote), AS v0.2.2.2.2.2.2.2.2.2.1, AL 1 (v0.2.2.2.2.2.2.2.2.2.2.1.map vI), AL 1 (v0.2.2.2.2.2.2.2.2.2.2.2.1.map vI), AI v0.2.2.2.2.2.2.2.2.2.2.2.2.1, AS v0.2.2.2.2.2.2.2.2.2.2.2.2.2.1, AI v0.2.2.2.2.2.2.2.2.2.2.2.2.2.2.1, AI v0.2.2.2.2.2.2.2.2.2.2.2.2.2.2.2.1, AI v0.2.2.2.2.2.2.2.2.2.2.2.2.2.2.2.2.1, AL 3 (v0.2.2.2.2.2.2.2.2.2.2.2.2.2.2.2.2.2.map eTurn)])] false rfl (con_impl_cadenceCode e1002) c51_ok (by first | rfl | simp) rfl ?_
   refine qg (AB (decide (v1002 = (0 : Int)))) rfl rfl (qp (AB (decide (v1002 = (0 : Int)))) rfl (qp (AB (decide (v1002 = (0 : Int)))) rfl ?_))
   refine q_case 36 hF rfl (fun hF => ?_) (fun hF => ?_)
   ·
    refine qg (.ptr 0 0 17) rfl rfl (qg (AL 3 (v0.2.2.2.2.2.2.2.2.2.2.2.2.2.2.2.2.2.map eTurn)) rfl rfl ?_)
    obtain ⟨v1003, e1003, hF⟩ := bind_get hF
    refine qcg (AB v1003) [(768, .box [AI v1000.1.1, AI v1000.1.2.1, .sl 514 0 v1000.1.2.2.1.length, .sl 515 0 v1000.1.2.2.2.length]), (768, .box [AI 0, AI 0, .sl 769 0 0, .sl 770 0 0]), (770, .row true 3 (([] : List Int).map vI)), (769, .row true 1 (([] : List Int).map vI)), (515, .row true 3 (v1000.1.2.2.2.map eArc)), (514, .row true 1 (v1000.1.2.2.1.map vI)), (0, .box [AS v0.1, AL 1 (v0.2.1.map vI), AL 1 (v0.2.2.1.map vI), AI v0.2.2.2.1, AI v0.2.2.2.2.1, AL 1 (v0.2.2.2.2.2.1.map (eL 1 vI)), AI v0.2.2.2.2.2.2.1, AI v0.2.2.2.2.2.2.2.1, AL 2 (v0.2.2.2.2.2.2.2.2.1.map eNote), AS v0.2.2.2.2.2.2.2.2.2.1, AL 1 (v0.2.2.2.2.2.2.2.2.2.2.1.map vI), AL 1 (v0.2.2.2.2.2.2.2.2.2.2.2.1.map vI), AI v0.2.2.2.2.2.2.2.2.2.2.2.2.1, AS v0.2.2.2.2.2.2.2.2.2.2.2.2.2.1, AI v0.2.2.2.2.2.2.2.2.2.2.2.2.2.2.1, AI v0.2.2.2.2.2.2.2.2.2.2.2.2.2.2.2.1, AI v0.2.2.2.2.2.2.2.2.2.2.2.2.2.2.2.2.1, AL 3 (v0.2.2.2.2.2.2.2.2.2.2.2.2.2.2.2.2.2.map eTurn)])] false rfl (con_impl_ValidTurns e1003) c52_ok (by first | rfl | simp) rfl ?_
    refine qp (AB v1003) rfl (qp (AB v1003) rfl ?_)
    refine r_nil ?_
    refine w_ret ?_
    cases hF
    exact eR
   ·
    refine qn rfl (qn rfl (qn rfl (qp (AB false) rfl (qp (AB false) rfl ?_))))
    refine r_nil ?_
    refine w_ret ?_
    cases hF
    exact eR
  ·
   refine qn rfl (qn rfl (qn rfl (qn rfl (qn rfl (qn rfl (qn rfl (qn rfl ?_)))))))
   refine qn rfl (qn rfl (qn rfl (qn rfl (qp (AB false) rfl (qp (AB false) rfl (qn rfl (qn rfl ?_)))))))
   refine qn rfl (qp (AB false) rfl (qp (AB false) rfl ?_))
   refine r_nil ?_
   refine w_ret ?_
   cases hF
   exact eR
 ·
  refine qn rfl (qn rfl (qn rfl (qp (AB false) rfl (qp (AB false) rfl (qn rfl (qn rfl (qn rfl ?_)))))))
  refine qn rfl (qn rfl (qn rfl (qn rfl (qn rfl (qn rfl (qn rfl (qn rfl ?_)))))))
  refine qn rfl (qp (AB false) rfl (qp (AB false) rfl (qn rfl (qn rfl (qn rfl (qp (AB false) rfl (qp (AB false) rfl ?_)))))))
  refine r_nil ?_
  refine w_ret ?_
  cases hF
  exact eR

def c163 : MC := (.seq (.reg [rg 4 (.p true (.mv (.c (.bool false))))]) (.seq (.seq (.reg [mvt 6 0, rg 7 (.p true (.len (.t 6))), mvt 8 1, rg 9 (.p true (.len (.t 8))), rg 10 (.p true (.bin .neq (.t 7) (.t 9)))]) (.cond (.t 10) (.seq (.reg [rg 4 (.p true (.mv (.c (.bool false))))]) .ret) .skip)) (.seq (.seq (.reg [rg 5 (.p true (.mv (.c (.int .i64 0))))]) (.block 0 (.loop (.seq (.seq (.reg [mvt 11 5, mvt 12 0, rg 13 (.p true (.len (.t 12))), rg 14 (.p true (.bin .lss (.t 11) (.t 13)))]) (.cond (.t 14) .skip (.exit 0))) (.seq (.block 1 (.seq (.reg [rg 17 (.p false (.mv (.t 0))), rg 18 (.p false (.mv (.t 5))), rg 19 (.p false (.iad (.t 17) (.t 18) 1)), rg 20 (.p false (.ld (.t 19) 1 false)), rg 21 (.p false (.mv (.t 1))), rg 22 (.p false (.mv (.t 5))), rg 23 (.p false (.iad (.t 21) (.t 22) 1)), rg 24 (.p false (.ld (.t 23) 1 false)), rg 25 (.p false (.bin .neq (.t 20) (.t 24)))]) (.cond (.t 25) (.seq (.reg [rg 4 (.p true (.mv (.c (.bool false))))]) .ret) .skip))) (.reg [mvt 15 5, rg 16 (.p true (.bin .add (.t 15) (.c (.int .i64 1)))), mvt 5 16])))))) (.seq (.reg [rg 4 (.p true (.mv (.c (.bool true))))]) .ret))))
theorem c163_is : compFn Try.prog 163 = some (c163, [(.tmp 4)]) := by kernel_rfl
theorem c163_ok : okFn Try.prog 163 = true := by kernel_rfl

noncomputable def F_laws_eqInt64S_l0 (v0 : List Int) (v1 : List Int) (k0 : Int → Option (Bool)) : Int → Option (Bool)
 | v7 => (bif (decide (v7 < (v0.length : Int))) then ((ix v0 v7).bind fun v1000 => ((ix v1 v7).bind fun v1001 => (bif (decide (v1000 ≠ v1001)) then some false
 else k0 (w64 (v7 + 1)))))
 else some true)
noncomputable def F_laws_eqInt64S (v0 : List Int) (v1 : List Int) : Option (Bool) :=
 (bif (decide ((v0.length : Int) ≠ (v1.length : Int))) then some false
 else loop (F_laws_eqInt64S_l0 v0 v1) 0)
@[simp] def res_laws_eqInt64S (r : Bool) : RV := .one (.one (.val (.bool r)))
theorem con_laws_eqInt64S {v0 : List Int} {v1 : List Int} {r : Bool} (hF : F_laws_eqInt64S v0 v1 = some r) : Con Try.prog 163 [.sl 1 (v0.map vI), .sl 1 (v1.map vI)] (res_laws_eqInt64S r) := by
 unfold F_laws_eqInt64S at hF
 refine con_of c163_is fun N => ?_
 refine ws 0 64 ?_
 refine qp (AB false) rfl ?_
 refine r_nil ?_
 refine w_seq ?_
 refine ws 64 384 ?_
 refine qp (AL 1 (v0.map vI)) rfl (qp (AI (v0.length : Int)) (ev_len_n rfl) (qp (AL 1 (v1.map vI)) rfl (qp (AI (v1.length : Int)) (ev_len_n rfl) (qp (AB (decide ((v0.length : Int) ≠ (v1.length : Int)))) rfl ?_))))
 refine r_nil ?_
 refine cF hF (fun hF => ?_) fun hF => ?_
 ·
  refine ws 384 448 ?_
  refine qp (AB false) rfl ?_
  refine r_nil ?_
  refine w_ret ?_
  refine thenQ_r ?_
  cases hF
  exact eR
 ·
  refine w_skip ?_
  refine thenQ_n ?_
  refine w_seq ?_
  refine ws 384 448 ?_
  refine qp (AI 0) rfl ?_
  refine r_nil ?_
  refine w_block ?_
  refine wr (l' := [(0, AL 1 (v0.map vI)), (1, AL 1 (v1.map vI)), (5, AI 0)]) (L := []) [0, 1, 5] [] 1 ?_
  refine w_loopF (F_laws_eqInt64S_l0 v0 v1) (fun s : Int => mkS [(0, AL 1 (v0.map vI)), (1, AL 1 (v1.map vI)), (5, AI s)] (fo []) 1) hF ?_
  rintro k0 v7 hF
  rw [F_laws_eqInt64S_l0] at hF
  try dsimp only
  refine w_seq ?_
  refine ws 1 257 ?_
  refine qp (AI v7) rfl (qp (AL 1 (v0.map vI)) rfl (qp (AI (v0.length : Int)) (ev_len_n rfl) (qp (AB (decide (v7 < (v0.length : Int)))) rfl ?_)))
  refine r_nil ?_
  refine cF hF (fun hF => ?_) fun hF => ?_
  ·
   refine w_skip ?_
   refine thenQ_n ?_
   refine w_seq ?_
   refine w_block ?_
   refine ws 257 833 ?_
   refine qp (AL 1 (v0.map vI)) rfl (qp (AI v7) rfl ?_)
   obtain ⟨v1000, e1000, hF⟩ := bind_get hF
   refine qp (.val none (.ptr [.int .i64 v1000])) (ev_iad_n rfl rfl e1000 rfl) (qp (AI v1000) rfl (qp (AL 1 (v1.map vI)) rfl (qp (AI v7) rfl ?_)))
   obtain ⟨v1001, e1001, hF⟩ := bind_get hF
   refine qp (.val none (.ptr [.int .i64 v1001])) (ev_iad_n rfl rfl e1001 rfl) (qp (AI v1001) rfl (qp (AB (decide (v1000 ≠ v1001))) rfl ?_))
   refine r_nil ?_
   refine cF hF (fun hF => ?_) fun hF => ?_
   ·
    refine ws 833 897 ?_
    refine qp (AB false) rfl ?_
    refine r_nil ?_
    refine w_ret ?_
    refine blockQ_r ?_
    refine thenQ_r ?_
    refine thenQ_r ?_
    refine blockQ_r ?_
    refine thenQ_r ?_
    cases hF
    exact eR
   ·
    refine w_skip ?_
    refine blockQ_n ?_
    refine thenQ_n ?_
    refine w_reg 833 1025 rfl rfl ?_
    refine qp (AI v7) rfl (qp (AI (w64 (v7 + 1))) rfl (qp (AI (w64 (v7 + 1))) rfl ?_))
    refine r_nil ?_
    refine thenQ_n ?_
    refine ar (l' := [(0, AL 1 (v0.map vI)), (1, AL 1 (v1.map vI)), (5, AI (w64 (v7 + 1)))]) (L := []) [0, 1, 5] [] 1 ⟨_, by rfl, hF⟩
  ·
   refine w_exit ?_
   refine thenQ_e ?_
   refine thenQ_e ?_
   refine blockQ_e ?_
   refine thenQ_n ?_
   refine ws 257 321 ?_
   refine qp (AB true) rfl ?_
   refine r_nil ?_
   refine w_ret ?_
   cases hF
   exact eR

def c85 : MC := (.seq (.reg [rg 4 (.p true (.mv (.c (.bool false))))]) (.seq (.seq (.reg [mvt 6 0, rg 7 (.p true (.len (.t 6))), mvt 8 1, rg 9 (.p true (.len (.t 8))), rg 10 (.p true (.bin .neq (.t 7) (.t 9)))]) (.cond (.t 10) (.seq (.reg [rg 4 (.p true (.mv (.c (.bool false))))]) .ret) .skip)) (.seq (.seq (.reg [rg 5 (.p true (.mv (.c (.int .i64 0))))]) (.block 0 (.loop (.seq (.seq (.reg [mvt 11 5, mvt 12 0, rg 13 (.p true (.len (.t 12))), rg 14 (.p true (.bin .lss (.t 11) (.t 13)))]) (.cond (.t 14) .skip (.exit 0))) (.seq (.block 1 (.seq (.reg [rg 17 (.p false (.mv (.t 0))), rg 18 (.p false (.mv (.t 5))), rg 19 (.p false (.iad (.t 17) (.t 18) 1)), rg 20 (.p false (.ld (.t 19) 1 false)), rg 21 (.p false (.mv (.t 1))), rg 22 (.p false (.mv (.t 5))), rg 23 (.p false (.iad (.t 21) (.t 22) 1)), rg 24 (.p false (.ld (.t 23) 1 false)), rg 25 (.call false 163 [(.t 20), (.t 24)]), rg 26 (.p false (.not (.t 25)))]) (.cond (.t 26) (.seq (.reg [rg 4 (.p true (.mv (.c (.bool false))))]) .ret) .skip))) (.reg [mvt 15 5, rg 16 (.p true (.bin .add (.t 15) (.c (.int .i64 1)))), mvt 5 16])))))) (.seq (.reg [rg 4 (.p true (.mv (.c (.bool true))))]) .ret))))
theorem c85_is : compFn Try.prog 85 = some (c85, [(.tmp 4)]) := by kernel_rfl
theorem c85_ok : okFn Try.prog 85 = true := by kernel_rfl

noncomputable def F_laws_eqInt64SS_l0 (v0 : List (List Int)) (v1 : List (List Int)) (k0 : Int → Option (Bool)) : Int → Option (Bool)
 | v9 => (bif (decide (v9 < (v0.length : Int))) then ((ix v0 v9).bind fun v1000 => ((ix v1 v9).bind fun v1001 => ((F_laws_eqInt64S v1000 v1001).bind fun v1002 => (bif (!v1002) then some false
 else k0 (w64 (v9 + 1))))))
 else some true)
noncomputable def F_laws_eqInt64SS (v0 : List (List Int)) (v1 : List (List Int)) : Option (Bool) :=
 (bif (decide ((v0.length : Int) ≠ (v1.length : Int))) then some false
 else loop (F_laws_eqInt64SS_l0 v0 v1) 0)
@[simp] def res_laws_eqInt64SS (r : Bool) : RV := .one (.one (.val (.bool r)))
theorem con_laws_eqInt64SS {v0 : List (List Int)} {v1 : List (List Int)} {r : Bool} (hF : F_laws_eqInt64SS v0 v1 = some r) : Con Try.prog 85 [.sl 1 (v0.map (eL 1 vI)), .sl 1 (v1.map (eL 1 vI))] (res_laws_eqInt64SS r) := by
 unfold F_laws_eqInt64SS at hF
 refine con_of c85_is fun N => ?_
 refine ws 0 64 ?_
 refine qp (AB false) rfl ?_
 refine r_nil ?_
 refine w_seq ?_
 refine ws 64 384 ?_
 refine qp (AL 1 (v0.map (eL 1 vI))) rfl (qp (AI (v0.length : Int)) (ev_len_n rfl) (qp (AL 1 (v1.map (eL 1 vI))) rfl (qp (AI (v1.length : Int)) (ev_len_n rfl) (qp (AB (decide ((v0.length : Int) ≠ (v1.length : Int)))) rfl ?_))))
 refine r_nil ?_
 refine cF hF (fun hF => ?_) fun hF => ?_
 ·
  refine ws 384 448 ?_
  refine qp (AB false) rfl ?_
  refine r_nil ?_
  refine w_ret ?_
  refine thenQ_r ?_
  cases hF
  exact eR
 ·
  refine w_skip ?_
  refine thenQ_n ?_
  refine w_seq ?_
  refine ws 384 448 ?_
  refine qp (AI 0) rfl ?_
  refine r_nil ?_
  refine w_block ?_
  refine wr (l' := [(0, AL 1 (v0.map (eL 1 vI))), (1, AL 1 (v1.map (eL 1 vI))), (5, AI 0)]) (L := []) [0, 1, 5] [] 1 ?_
  refine w_loopF (F_laws_eqInt64SS_l0 v0 v1) (fun s : Int => mkS [(0, AL 1 (v0.map (eL 1 vI))), (1, AL 1 (v1.map (eL 1 vI))), (5, AI s)] (fo []) 1) hF ?_
  rintro k0 v9 hF
  rw [F_laws_eqInt64SS_l0] at hF
  try dsimp only
  refine w_seq ?_
  refine ws 1 257 ?_
  refine qp (AI v9) rfl (qp (AL 1 (v0.map (eL 1 vI))) rfl (qp (AI (v0.length : Int)) (ev_len_n rfl) (qp (AB (decide (v9 < (v0.length : Int)))) rfl ?_)))
  refine r_nil ?_
  refine cF hF (fun hF => ?_) fun hF => ?_
  ·
   refine w_skip ?_
   refine thenQ_n ?_
   refine w_seq ?_
   refine w_block ?_
   refine ws 257 897 ?_
   refine qp (AL 1 (v0.map (eL 1 vI))) rfl (qp (AI v9) rfl ?_)
   obtain ⟨v1000, e1000, hF⟩ := bind_get hF
   refine qp (.val none (.ptr [.sl 1 (v1000.map vI)])) (ev_iad_n rfl rfl e1000 rfl) (qp (AL 1 (v1000.map vI)) rfl (qp (AL 1 (v1.map (eL 1 vI))) rfl (qp (AI v9) rfl ?_)))
   obtain ⟨v1001, e1001, hF⟩ := bind_get hF
   refine qp (.val none (.ptr [.sl 1 (v1001.map vI)])) (ev_iad_n rfl rfl e1001 rfl) (qp (AL 1 (v1001.map vI)) rfl ?_)
   obtain ⟨v1002, e1002, hF⟩ := bind_get hF
   refine qc (AB v1002) [] false (con_laws_eqInt64S e1002) c163_ok (by first | rfl | simp) rfl ?_
   refine qp (AB (!v1002)) rfl ?_
   refine r_nil ?_
   refine cF hF (fun hF => ?_) fun hF => ?_
   ·
    refine ws 897 961 ?_
    refine qp (AB false) rfl ?_
    refine r_nil ?_
    refine w_ret ?_
    refine blockQ_r ?_
    refine thenQ_r ?_
    refine thenQ_r ?_
    refine blockQ_r ?_
    refine thenQ_r ?_
    cases hF
    exact eR
   ·
    refine w_skip ?_
    refine blockQ_n ?_
    refine thenQ_n ?_
    refine w_reg 897 1089 rfl rfl ?_
    refine qp (AI v9) rfl (qp (AI (w64 (v9 + 1))) rfl (qp (AI (w64 (v9 + 1))) rfl ?_))
    refine r_nil ?_
    refine thenQ_n ?_
    refine ar (l' := [(0, AL 1 (v0.map (eL 1 vI))), (1, AL 1 (v1.map (eL 1 vI))), (5, AI (w64 (v9 + 1)))]) (L := []) [0, 1, 5] [] 1 ⟨_, by rfl, hF⟩
  ·
   refine w_exit ?_
   refine thenQ_e ?_
   refine thenQ_e ?_
   refine blockQ_e ?_
   refine thenQ_n ?_
   refine ws 257 321 ?_
   refine qp (AB true) rfl ?_
   refine r_nil ?_
   refine w_ret ?_
   cases hF
   exact eR

def c53 : MC := (.seq (.reg [rg 2 (.f (.box (.t 0))), rg 3 (.f (.box (.t 1))), rg 4 (.p true (.mv (.c (.bool false))))]) (.seq (.seq (.reg [rg 5 (.p true (.fad (.t 2) 0)), rg 6 (.p true (.ld (.t 5) 1 false)), rg 7 (.p true (.fad (.t 3) 0)), rg 8 (.p true (.ld (.t 7) 1 false)), rg 9 (.p true (.bin .neq (.t 6) (.t 8)))]) (.cond (.t 9) (.seq (.reg [rg 4 (.p true (.mv (.c (.bool false))))]) .ret) .skip)) (.seq (.seq (.reg [rg 10 (.p true (.fad (.t 2) 1)), rg 11 (.p true (.ld (.t 10) 1 false)), rg 12 (.p true (.fad (.t 3) 1)), rg 13 (.p true (.ld (.t 12) 1 false)), rg 14 (.call true 163 [(.t 11), (.t 13)]), rg 15 (.p true (.not (.t 14)))]) (.cond (.t 15) (.seq (.reg [rg 4 (.p true (.mv (.c (.bool false))))]) .ret) .skip)) (.seq (.seq (.reg [rg 16 (.p true (.fad (.t 2) 2)), rg 17 (.p true (.ld (.t 16) 1 false)), rg 18 (.p true (.fad (.t 3) 2)), rg 19 (.p true (.ld (.t 18) 1 false)), rg 20 (.call true 163 [(.t 17), (.t 19)]), rg 21 (.p true (.not (.t 20)))]) (.cond (.t 21) (.seq (.reg [rg 4 (.p true (.mv (.c (.bool false))))]) .ret) .skip)) (.seq (.seq (.reg [rg 22 (.p true (.fad (.t 2) 3)), rg 23 (.p true (.ld (.t 22) 1 false)), rg 24 (.p true (.fad (.t 3) 3)), rg 25 (.p true (.ld (.t 24) 1 false)), rg 26 (.p true (.bin .neq (.t 23) (.t 25)))]) (.cond (.t 26) (.seq (.reg [rg 4 (.p true (.mv (.c (.bool false))))]) .ret) .skip)) (.seq (.seq (.reg [rg 27 (.p true (.fad (.t 2) 4)), rg 28 (.p true (.ld (.t 27) 1 false)), rg 29 (.p true (.fad (.t 3) 4)), rg 30 (.p true (.ld (.t 29) 1 false)), rg 31 (.p true (.bin .neq (.t 28) (.t 30)))]) (.cond (.t 31) (.seq (.reg [rg 4 (.p true (.mv (.c (.bool false))))]) .ret) .skip)) (.seq (.seq (.reg [rg 32 (.p true (.fad (.t 2) 5)), rg 33 (.p true (.ld (.t 32) 1 false)), rg 34 (.p true (.fad (.t 3) 5)), rg 35 (.p true (.ld (.t 34) 1 false)), rg 36 (.call true 85 [(.t 33), (.t 35)]), rg 37 (.p true (.not (.t 36)))]) (.cond (.t 37) (.seq (.reg [rg 4 (.p true (.mv (.c (.bool false))))]) .ret) .skip)) (.seq (.reg [rg 4 (.p true (.mv (.c (.bool true))))]) .ret))))))))
theorem c53_is : compFn Try.prog 53 = some (c53, [(.tmp 4)]) := by kernel_rfl
theorem c53_ok : okFn Try.prog 53 = true := by kernel_rfl

noncomputable def F_laws_eqRaga (v0 : TRaga) (v1 : TRaga) : Option (Bool) :=
 (bif (decide (v0.1 ≠ v1.1)) then some false
 else ((F_laws_eqInt64S v0.2.1 v1.2.1).bind fun v1000 => (bif (!v1000) then some false
 else ((F_laws_eqInt64S v0.2.2.1 v1.2.2.1).bind fun v1001 => (bif (!v1001) then some false
 else (bif (decide (v0.2.2.2.1 ≠ v1.2.2.2.1)) then some false
 else (bif (decide (v0.2.2.2.2.1 ≠ v1.2.2.2.2.1)) then some false
 else ((F_laws_eqInt64SS v0.2.2.2.2.2 v1.2.2.2.2.2).bind fun v1002 => (bif (!v1002) then some false
 else some true)))))))))
@[simp] def res_laws_eqRaga (r : Bool) : RV := .one (.one (.val (.bool r)))
theorem con_laws_eqRaga {v0 : TRaga} {v1 : TRaga} {r : Bool} (hF : F_laws_eqRaga v0 v1 = some r) : Con Try.prog 53 [eRaga v0, eRaga v1] (res_laws_eqRaga r) := by
 unfold F_laws_eqRaga at hF
 refine con_of c53_is fun N => ?_
 refine ws 0 192 ?_
 refine qf (.ptr 0 0 0) [(0, .box [AS v0.1, AL 1 (v0.2.1.map vI), AL 1 (v0.2.2.1.map vI), AI v0.2.2.2.1, AI v0.2.2.2.2.1, AL 1 (v0.2.2.2.2.2.map (eL 1 vI))])] (by simp) ?_
 refine qf (.ptr 64 0 0) [(64, .box [AS v1.1, AL 1 (v1.2.1.map vI), AL 1 (v1.2.2.1.map vI), AI v1.2.2.2.1, AI v1.2.2.2.2.1, AL 1 (v1.2.2.2.2.2.map (eL 1 vI))]), (0, .box [AS v0.1, AL 1 (v0.2.1.map vI), AL 1 (v0.2.2.1.map vI), AI v0.2.2.2.1, AI v0.2.2.2.2.1, AL 1 (v0.2.2.2.2.2.map (eL 1 vI))])] (by simp) ?_
 refine qp (AB false) rfl ?_
 refine r_nil ?_
 refine w_seq ?_
 refine ws 192 512 ?_
 refine qp (.ptr 0 0 0) rfl (qp (AS v0.1) rfl (qp (.ptr 64 0 0) rfl (qp (AS v1.1) rfl (qp (AB (decide (v0.1 ≠ v1.1))) rfl ?_))))
 refine r_nil ?_
 refine cF hF (fun hF => ?_) fun hF => ?_
 ·
  refine ws 512 576 ?_
  refine qp (AB false) rfl ?_
  refine r_nil ?_
  refine w_ret ?_
  refine thenQ_r ?_
  cases hF
  exact eR
 ·
  refine w_skip ?_
  refine thenQ_n ?_
  refine w_seq ?_
  refine ws 512 896 ?_
  refine qp (.ptr 0 0 1) rfl (qp (AL 1 (v0.2.1.map vI)) rfl (qp (.ptr 64 0 1) rfl (qp (AL 1 (v1.2.1.map vI)) rfl ?_)))
  obtain ⟨v1000, e1000, hF⟩ := bind_get hF
  refine qc (AB v1000) [(64, .box [AS v1.1, AL 1 (v1.2.1.map vI), AL 1 (v1.2.2.1.map vI), AI v1.2.2.2.1, AI v1.2.2.2.2.1, AL 1 (v1.2.2.2.2.2.map (eL 1 vI))]), (0, .box [AS v0.1, AL 1 (v0.2.1.map vI), AL 1 (v0.2.2.1.map vI), AI v0.2.2.2.1, AI v0.2.2.2.2.1, AL 1 (v0.2.2.2.2.2.map (eL 1 vI))])] false (con_laws_eqInt64S e1000) c163_ok (by first | rfl | simp) rfl ?_
  refine qp (AB (!v1000)) rfl ?_
  refine r_nil ?_
  refine cF hF (fun hF => ?_) fun hF => ?_
  ·
   refine ws 896 960 ?_
   refine qp (AB false) rfl ?_
   refine r_nil ?_
   refine w_ret ?_
   refine thenQ_r ?_
   cases hF
   exact eR
  ·
   refine w_skip ?_
   refine thenQ_n ?_
   refine w_seq ?_
   refine ws 896 1280 ?_
   refine qp (.ptr 0 0 2) rfl (qp (AL 1 (v0.2.2.1.map vI)) rfl (qp (.ptr 64 0 2) rfl (qp (AL 1 (v1.2.2.1.map vI)) rfl ?_)))
   obtain ⟨v1001, e1001, hF⟩ := bind_get hF
   refine qc (AB v1001) [(64, .box [AS v1.1, AL 1 (v1.2.1.map vI), AL 1 (v1.2.2.1.map vI), AI v1.2.2.2.1, AI v1.2.2.2.2.1, AL 1 (v1.2.2.2.2.2.map (eL 1 vI))]), (0, .box [AS v0.1, AL 1 (v0.2.1.map vI), AL 1 (v0.2.2.1.map vI), AI v0.2.2.2.1, AI v0.2.2.2.2.1, AL 1 (v0.2.2.2.2.2.map (eL 1 vI))])] false (con_laws_eqInt64S e1001) c163_ok (by first | rfl | simp) rfl ?_
   refine qp (AB (!v1001)) rfl ?_
   refine r_nil ?_
   refine cF hF (fun hF => ?_) fun hF => ?_
   ·
    refine ws 1280 1344 ?_
    refine qp (AB false) rfl ?_
    refine r_nil ?_
    refine w_ret ?_
    refine thenQ_r ?_
    cases hF
    exact eR
   ·
    refine w_skip ?_
    refine thenQ_n ?_
    refine w_seq ?_
    refine ws 1280 1600 ?_
    refine qp (.ptr 0 0 3) rfl (qp (AI v0.2.2.2.1) rfl (qp (.ptr 64 0 3) rfl (qp (AI v1.2.2.2.1) rfl (qp (AB (decide (v0.2.2.2.1 ≠ v1.2.2.2.1))) rfl ?_))))
    refine r_nil ?_
    refine cF hF (fun hF => ?_) fun hF => ?_
    ·
     refine ws 1600 1664 ?_
     refine qp (AB false) rfl ?_
     refine r_nil ?_
     refine w_ret ?_
     refine thenQ_r ?_
     cases hF
     exact eR
    ·
     refine w_skip ?_
     refine thenQ_n ?_
     refine w_seq ?_
     refine ws 1600 1920 ?_
     refine qp (.ptr 0 0 4) rfl (qp (AI v0.2.2.2.2.1) rfl (qp (.ptr 64 0 4) rfl (qp (AI v1.2.2.2.2.1) rfl (qp (AB (decide (v0.2.2.2.2.1 ≠ v1.2.2.2.2.1))) rfl ?_))))
     refine r_nil ?_
     refine cF hF (fun hF => ?_) fun hF => ?_
     ·
      refine ws 1920 1984 ?_
      refine qp (AB false) rfl ?_
      refine r_nil ?_
      refine w_ret ?_
      refine thenQ_r ?_
      cases hF
      exact eR
     ·
      refine w_skip ?_
      refine thenQ_n ?_
      refine w_seq ?_
      refine ws 1920 2304 ?_
      refine qp (.ptr 0 0 5) rfl (qp (AL 1 (v0.2.2.2.2.2.map (eL 1 vI))) rfl (qp (.ptr 64 0 5) rfl (qp (AL 1 (v1.2.2.2.2.2.map (eL 1 vI))) rfl ?_)))
      obtain ⟨v1002, e1002, hF⟩ := bind_get hF
      refine qc (AB v1002) [(64, .box [AS v1.1, AL 1 (v1.2.1.map vI), AL 1 (v1.2.2.1.map vI), AI v1.2.2.2.1, AI v1.2.2.2.2.1, AL 1 (v1.2.2.2.2.2.map (eL 1 vI))]), (0, .box [AS v0.1, AL 1 (v0.2.1.map vI), AL 1 (v0.2.2.1.map vI), AI v0.2.2.2.1, AI v0.2.2.2.2.1, AL 1 (v0.2.2.2.2.2.map (eL 1 vI))])] false (con_laws_eqInt64SS e1002) c85_ok (by first | rfl | simp) rfl ?_
      refine qp (AB (!v1002)) rfl ?_
      refine r_nil ?_
      refine cF hF (fun hF => ?_) fun hF => ?_
      ·
       refine ws 2304 2368 ?_
       refine qp (AB false) rfl ?_
       refine r_nil ?_
       refine w_ret ?_
       refine thenQ_r ?_
       cases hF
       exact eR
      ·
       refine w_skip ?_
       refine thenQ_n ?_
       refine ws 2304 2368 ?_
       refine qp (AB true) rfl ?_
       refine r_nil ?_
       refine w_ret ?_
       cases hF
       exact eR

def c164 : MC := (.seq (.reg [rg 2 (.f (.box (.t 0))), rg 3 (.f (.box (.t 1))), rg 4 (.p true (.mv (.c (.bool false))))]) (.seq (.seq (.reg [rg 5 (.p true (.fad (.t 2) 0)), rg 6 (.p true (.ld (.t 5) 1 false)), rg 7 (.p true (.fad (.t 3) 0)), rg 8 (.p true (.ld (.t 7) 1 false)), rg 9 (.p true (.bin .neq (.t 6) (.t 8)))]) (.cond (.t 9) (.seq (.reg [rg 4 (.p true (.mv (.c (.bool false))))]) .ret) .skip)) (.seq (.seq (.reg [rg 10 (.p true (.fad (.t 2) 1)), rg 11 (.p true (.ld (.t 10) 1 false)), rg 12 (.p true (.fad (.t 3) 1)), rg 13 (.p true (.ld (.t 12) 1 false)), rg 14 (.p true (.bin .neq (.t 11) (.t 13)))]) (.cond (.t 14) (.seq (.reg [rg 4 (.p true (.mv (.c (.bool false))))]) .ret) .skip)) (.seq (.reg [rg 4 (.p true (.mv (.c (.bool true))))]) .ret))))
theorem c164_is : compFn Try.prog 164 = some (c164, [(.tmp 4)]) := by kernel_rfl
theorem c164_ok : okFn Try.prog 164 = true := by kernel_rfl

noncomputable def F_laws_eqNote (v0 : TNote) (v1 : TNote) : Option (Bool) :=
 (bif (decide (v0.1 ≠ v1.1)) then some false
 else (bif (decide (v0.2 ≠ v1.2)) then some false
 else some true))
@[simp] def res_laws_eqNote (r : Bool) : RV := .one (.one (.val (.bool r)))
theorem con_laws_eqNote {v0 : TNote} {v1 : TNote} {r : Bool} (hF : F_laws_eqNote v0 v1 = some r) : Con Try.prog 164 [eNote v0, eNote v1] (res_laws_eqNote r) := by
 unfold F_laws_eqNote at hF
 refine con_of c164_is fun N => ?_
 refine ws 0 192 ?_
 refine qf (.ptr 0 0 0) [(0, .box [AI v0.1, AI v0.2])] (by simp) ?_
 refine qf (.ptr 64 0 0) [(64, .box [AI v1.1, AI v1.2]), (0, .box [AI v0.1, AI v0.2])] (by simp) ?_
 refine qp (AB false) rfl ?_
 refine r_nil ?_
 refine w_seq ?_
 refine ws 192 512 ?_
 refine qp (.ptr 0 0 0) rfl (qp (AI v0.1) rfl (qp (.ptr 64 0 0) rfl (qp (AI v1.1) rfl (qp (AB (decide (v0.1 ≠ v1.1))) rfl ?_))))
 refine r_nil ?_
 refine cF hF (fun hF => ?_) fun hF => ?_
 ·
  refine ws 512 576 ?_
  refine qp (AB false) rfl ?_
  refine r_nil ?_
  refine w_ret ?_
  refine thenQ_r ?_
  cases hF
  exact eR
 ·
  refine w_skip ?_
  refine thenQ_n ?_
  refine w_seq ?_
  refine ws 512 832 ?_
  refine qp (.ptr 0 0 1) rfl (qp (AI v0.2) rfl (qp (.ptr 64 0 1) rfl (qp (AI v1.2) rfl (qp (AB (decide (v0.2 ≠ v1.2))) rfl ?_))))
  refine r_nil ?_
  refine cF hF (fun hF => ?_) fun hF => ?_
  ·
   refine ws 832 896 ?_
   refine qp (AB false) rfl ?_
   refine r_nil ?_
   refine w_ret ?_
   refine thenQ_r ?_
   cases hF
   exact eR
  ·
   refine w_skip ?_
   refine thenQ_n ?_
   refine ws 832 896 ?_
   refine qp (AB true) rfl ?_
   refine r_nil ?_
   refine w_ret ?_
   cases hF
   exact eR

def c54 : MC := (.seq (.reg [rg 4 (.p true (.mv (.c (.bool false))))]) (.seq (.seq (.reg [mvt 6 0, rg 7 (.p true (.len (.t 6))), mvt 8 1, rg 9 (.p true (.len (.t 8))), rg 10 (.p true (.bin .neq (.t 7) (.t 9)))]) (.cond (.t 10) (.seq (.reg [rg 4 (.p true (.mv (.c (.bool false))))]) .ret) .skip)) (.seq (.seq (.reg [rg 5 (.p true (.mv (.c (.int .i64 0))))]) (.block 0 (.loop (.seq (.seq (.reg [mvt 11 5, mvt 12 0, rg 13 (.p true (.len (.t 12))), rg 14 (.p true (.bin .lss (.t 11) (.t 13)))]) (.cond (.t 14) .skip (.exit 0))) (.seq (.block 1 (.seq (.reg [rg 17 (.p false (.mv (.t 0))), rg 18 (.p false (.mv (.t 5))), rg 19 (.p false (.iad (.t 17) (.t 18) 2)), rg 20 (.p false (.ld (.t 19) 2 true)), rg 21 (.p false (.mv (.t 1))), rg 22 (.p false (.mv (.t 5))), rg 23 (.p false (.iad (.t 21) (.t 22) 2)), rg 24 (.p false (.ld (.t 23) 2 true)), rg 25 (.call false 164 [(.t 20), (.t 24)]), rg 26 (.p false (.not (.t 25)))]) (.cond (.t 26) (.seq (.reg [rg 4 (.p true (.mv (.c (.bool false))))]) .ret) .skip))) (.reg [mvt 15 5, rg 16 (.p true (.bin .add (.t 15) (.c (.int .i64 1)))), mvt 5 16])))))) (.seq (.reg [rg 4 (.p true (.mv (.c (.bool true))))]) .ret))))
theorem c54_is : compFn Try.prog 54 = some (c54, [(.tmp 4)]) := by kernel_rfl
theorem c54_ok : okFn Try.prog 54 = true := by kernel_rfl

noncomputable def F_laws_eqNoteS_l0 (v0 : List TNote) (v1 : List TNote) (k0 : Int → Option (Bool)) : Int → Option (Bool)
 | v9 => (bif (decide (v9 < (v0.length : Int))) then ((ix v0 v9).bind fun v1000 => ((ix v1 v9).bind fun v1001 => ((F_laws_eqNote v1000 v1001).bind fun v1002 => (bif (!v1002) then some false
 else k0 (w64 (v9 + 1))))))
 else some true)
noncomputable def F_laws_eqNoteS (v0 : List TNote) (v1 : List TNote) : Option (Bool) :=
 (bif (decide ((v0.length : Int) ≠ (v1.length : Int))) then some false
 else loop (F_laws_eqNoteS_l0 v0 v1) 0)
@[simp] def res_laws_eqNoteS (r : Bool) : RV := .one (.one (.val (.bool r)))
theorem con_laws_eqNoteS {v0 : List TNote} {v1 : List TNote} {r : Bool} (hF : F_laws_eqNoteS v0 v1 = some r) : Con Try.prog 54 [.sl 2 (v0.map eNote), .sl 2 (v1.map eNote)] (res_laws_eqNoteS r) := by
 unfold F_laws_eqNoteS at hF
 refine con_of c54_is fun N => ?_
 refine ws 0 64 ?_
 refine qp (AB false) rfl ?_
 refine r_nil ?_
 refine w_seq ?_
 refine ws 64 384 ?_
 refine qp (AL 2 (v0.map eNote)) rfl (qp (AI (v0.length : Int)) (ev_len_n rfl) (qp (AL 2 (v1.map eNote)) rfl (qp (AI (v1.length : Int)) (ev_len_n rfl) (qp (AB (decide ((v0.length : Int) ≠ (v1.length : Int)))) rfl ?_))))
 refine r_nil ?_
 refine cF hF (fun hF => ?_) fun hF => ?_
 ·
  refine ws 384 448 ?_
  refine qp (AB false) rfl ?_
  refine r_nil ?_
  refine w_ret ?_
  refine thenQ_r ?_
  cases hF
  exact eR
 ·
  refine w_skip ?_
  refine thenQ_n ?_
  refine w_seq ?_
  refine ws 384 448 ?_
  refine qp (AI 0) rfl ?_
  refine r_nil ?_
  refine w_block ?_
  refine wr (l' := [(0, AL 2 (v0.map eNote)), (1, AL 2 (v1.map eNote)), (5, AI 0)]) (L := []) [0, 1, 5] [] 1 ?_
  refine w_loopF (F_laws_eqNoteS_l0 v0 v1) (fun s : Int => mkS [(0, AL 2 (v0.map eNote)), (1, AL 2 (v1.map eNote)), (5, AI s)] (fo []) 1) hF ?_
  rintro k0 v9 hF
  rw [F_laws_eqNoteS_l0] at hF
  try dsimp only
  refine w_seq ?_
  refine ws 1 257 ?_
  refine qp (AI v9) rfl (qp (AL 2 (v0.map eNote)) rfl (qp (AI (v0.length : Int)) (ev_len_n rfl) (qp (AB (decide (v9 < (v0.length : Int)))) rfl ?_)))
  refine r_nil ?_
  refine cF hF (fun hF => ?_) fun hF => ?_
  ·
   refine w_skip ?_
   refine thenQ_n ?_
   refine w_seq ?_
   refine w_block ?_
   refine ws 257 897 ?_
   refine qp (AL 2 (v0.map eNote)) rfl (qp (AI v9) rfl ?_)
   obtain ⟨v1000, e1000, hF⟩ := bind_get hF
   refine qp (.val none (.ptr [.int .i64 v1000.1, .int .i64 v1000.2])) (ev_iad_n rfl rfl e1000 rfl) (qp (.val none (eNote v1000)) rfl (qp (AL 2 (v1.map eNote)) rfl (qp (AI v9) rfl ?_)))
   obtain ⟨v1001, e1001, hF⟩ := bind_get hF
   refine qp (.val none (.ptr [.int .i64 v1001.1, .int .i64 v1001.2])) (ev_iad_n rfl rfl e1001 rfl) (qp (.val none (eNote v1001)) rfl ?_)
   obtain ⟨v1002, e1002, hF⟩ := bind_get hF
   refine qc (AB v1002) [] false (con_laws_eqNote e1002) c164_ok (by first | rfl | simp) rfl ?_
   refine qp (AB (!v1002)) rfl ?_
   refine r_nil ?_
   refine cF hF (fun hF => ?_) fun hF => ?_
   ·
    refine ws 897 961 ?_
    refine qp (AB false) rfl ?_
    refine r_nil ?_
    refine w_ret ?_
    refine blockQ_r ?_
    refine thenQ_r ?_
    refine thenQ_r ?_
    refine blockQ_r ?_
    refine thenQ_r ?_
    cases hF
    exact eR
   ·
    refine w_skip ?_
    refine blockQ_n ?_
    refine thenQ_n ?_
    refine w_reg 897 1089 rfl rfl ?_
    refine qp (AI v9) rfl (qp (AI (w64 (v9 + 1))) rfl (qp (AI (w64 (v9 + 1))) rfl ?_))
    refine r_nil ?_
    refine thenQ_n ?_
    refine ar (l' := [(0, AL 2 (v0.map eNote)), (1, AL 2 (v1.map eNote)), (5, AI (w64 (v9 + 1)))]) (L := []) [0, 1, 5] [] 1 ⟨_, by rfl, hF⟩
  ·
   refine w_exit ?_
   refine thenQ_e ?_
   refine thenQ_e ?_
   refine blockQ_e ?_
   refine thenQ_n ?_
   refine ws 257 321 ?_
   refine qp (AB true) rfl ?_
   refine r_nil ?_
   refine w_ret ?_
   cases hF
   exact eR

def c55 : MC := (.seq (.reg [rg 2 (.f (.box (.t 0))), rg 3 (.f (.box (.t 1))), rg 4 (.p true (.mv (.c (.bool false))))]) (.seq (.seq (.reg [rg 5 (.p true (.fad (.t 2) 0)), rg 6 (.p true (.ld (.t 5) 1 false)), rg 7 (.p true (.fad (.t 3) 0)), rg 8 (.p true (.ld (.t 7) 1 false)), rg 9 (.p true (.bin .neq (.t 6) (.t 8)))]) (.cond (.t 9) (.seq (.reg [rg 4 (.p true (.mv (.c (.bool false))))]) .ret) .skip)) (.seq (.seq (.reg [rg 10 (.p true (.fad (.t 2) 1)), rg 11 (.p true (.ld (.t 10) 1 false)), rg 12 (.p true (.fad (.t 3) 1)), rg 13 (.p true (.ld (.t 12) 1 false)), rg 14 (.call true 163 [(.t 11), (.t 13)]), rg 15 (.p true (.not (.t 14)))]) (.cond (.t 15) (.seq (.reg [rg 4 (.p true (.mv (.c (.bool false))))]) .ret) .skip)) (.seq (.seq (.reg [rg 16 (.p true (.fad (.t 2) 2)), rg 17 (.p true (.ld (.t 16) 1 false)), rg 18 (.p true (.fad (.t 3) 2)), rg 19 (.p true (.ld (.t 18) 1 false)), rg 20 (.call true 163 [(.t 17), (.t 19)]), rg 21 (.p true (.not (.t 20)))]) (.cond (.t 21) (.seq (.reg [rg 4 (.p true (.mv (.c (.bool false))))]) .ret) .skip)) (.seq (.reg [rg 4 (.p true (.mv (.c (.bool true))))]) .ret)))))
theorem c55_is : compFn Try.prog 55 = some (c55, [(.tmp 4)]) := by kernel_rfl
theorem c55_ok : okFn Try.prog 55 = true := by kernel_rfl

noncomputable def F_laws_eqTala (v0 : TTala) (v1 : TTala) : Option (Bool) :=
 (bif (decide (v0.1 ≠ v1.1)) then some false
 else ((F_laws_eqInt64S v0.2.1 v1.2.1).bind fun v1000 => (bif (!v1000) then some false
 else ((F_laws_eqInt64S v0.2.2 v1.2.2).bind fun v1001 => (bif (!v1001) then some false
 else some true)))))
@[simp] def res_laws_eqTala (r : Bool) : RV := .one (.one (.val (.bool r)))
theorem con_laws_eqTala {v0 : TTala} {v1 : TTala} {r : Bool} (hF : F_laws_eqTala v0 v1 = some r) : Con Try.prog 55 [eTala v0, eTala v1] (res_laws_eqTala r) := by
 unfold F_laws_eqTala at hF
 refine con_of c55_is fun N => ?_
 refine ws 0 192 ?_
 refine qf (.ptr 0 0 0) [(0, .box [AS v0.1, AL 1 (v0.2.1.map vI), AL 1 (v0.2.2.map vI)])] (by simp) ?_
 refine qf (.ptr 64 0 0) [(64, .box [AS v1.1, AL 1 (v1.2.1.map vI), AL 1 (v1.2.2.map vI)]), (0, .box [AS v0.1, AL 1 (v0.2.1.map vI), AL 1 (v0.2.2.map vI)])] (by simp) ?_
 refine qp (AB false) rfl ?_
 refine r_nil ?_
 refine w_seq ?_
 refine ws 192 512 ?_
 refine qp (.ptr 0 0 0) rfl (qp (AS v0.1) rfl (qp (.ptr 64 0 0) rfl (qp (AS v1.1) rfl (qp (AB (decide (v0.1 ≠ v1.1))) rfl ?_))))
 refine r_nil ?_
 refine cF hF (fun hF => ?_) fun hF => ?_
 ·
  refine ws 512 576 ?_
  refine qp (AB false) rfl ?_
  refine r_nil ?_
  refine w_ret ?_
  refine thenQ_r ?_
  cases hF
  exact eR
 ·
  refine w_skip ?_
  refine thenQ_n ?_
  refine w_seq ?_
  refine ws 512 896 ?_
  refine qp (.ptr 0 0 1) rfl (qp (AL 1 (v0.2.1.map vI)) rfl (qp (.ptr 64 0 1) rfl (qp (AL 1 (v1.2.1.map vI)) rfl ?_)))
  obtain ⟨v1000, e1000, hF⟩ := bind_get hF
  refine qc (AB v1000) [(64, .box [AS v1.1, AL 1 (v1.2.1.map vI), AL 1 (v1.2.2.map vI)]), (0, .box [AS v0.1, AL 1 (v0.2.1.map vI), AL 1 (v0.2.2.map vI)])] false (con_laws_eqInt64S e1000) c163_ok (by first | rfl | simp) rfl ?_
  refine qp (AB (!v1000)) rfl ?_
  refine r_nil ?_
  refine cF hF (fun hF => ?_) fun hF => ?_
  ·
   refine ws 896 960 ?_
   refine qp (AB false) rfl ?_
   refine r_nil ?_
   refine w_ret ?_
   refine thenQ_r ?_
   cases hF
   exact eR
  ·
   refine w_skip ?_
   refine thenQ_n ?_
   refine w_seq ?_
   refine ws 896 1280 ?_
   refine qp (.ptr 0 0 2) rfl (qp (AL 1 (v0.2.2.map vI)) rfl (qp (.ptr 64 0 2) rfl (qp (AL 1 (v1.2.2.map vI)) rfl ?_)))
   obtain ⟨v1001, e1001, hF⟩ := bind_get hF
   refine qc (AB v1001) [(64, .box [AS v1.1, AL 1 (v1.2.1.map vI), AL 1 (v1.2.2.map vI)]), (0, .box [AS v0.1, AL 1 (v0.2.1.map vI), AL 1 (v0.2.2.map vI)])] false (con_laws_eqInt64S e1001) c163_ok (by first | rfl | simp) rfl ?_
   refine qp (AB (!v1001)) rfl ?_
   refine r_nil ?_
   refine cF hF (fun hF => ?_) fun hF => ?_
   ·
    refine ws 1280 1344 ?_
    refine qp (AB false) rfl ?_
    refine r_nil ?_
    refine w_ret ?_
    refine thenQ_r ?_
    cases hF
    exact eR
   ·
    refine w_skip ?_
    refine thenQ_n ?_
    refine ws 1280 1344 ?_
    refine qp (AB true) rfl ?_
    refine r_nil ?_
    refine w_ret ?_
    cases hF
    exact eR

def c165 : MC := (.seq (.reg [rg 2 (.f (.box (.t 0))), rg 3 (.f (.box (.t 1))), rg 4 (.p true (.mv (.c (.bool false))))]) (.seq (.seq (.reg [rg 5 (.p true (.fad (.t 2) 0)), rg 6 (.p true (.ld (.t 5) 1 false)), rg 7 (.p true (.fad (.t 3) 0)), rg 8 (.p true (.ld (.t 7) 1 false)), rg 9 (.p true (.bin .neq (.t 6) (.t 8)))]) (.cond (.t 9) (.seq (.reg [rg 4 (.p true (.mv (.c (.bool false))))]) .ret) .skip)) (.seq (.seq (.reg [rg 10 (.p true (.fad (.t 2) 1)), rg 11 (.p true (.ld (.t 10) 1 false)), rg 12 (.p true (.fad (.t 3) 1)), rg 13 (.p true (.ld (.t 12) 1 false)), rg 14 (.p true (.bin .neq (.t 11) (.t 13)))]) (.cond (.t 14) (.seq (.reg [rg 4 (.p true (.mv (.c (.bool false))))]) .ret) .skip)) (.seq (.seq (.reg [rg 15 (.p true (.fad (.t 2) 2)), rg 16 (.p true (.ld (.t 15) 1 false)), rg 17 (.p true (.fad (.t 3) 2)), rg 18 (.p true (.ld (.t 17) 1 false)), rg 19 (.p true (.bin .neq (.t 16) (.t 18)))]) (.cond (.t 19) (.seq (.reg [rg 4 (.p true (.mv (.c (.bool false))))]) .ret) .skip)) (.seq (.reg [rg 4 (.p true (.mv (.c (.bool true))))]) .ret)))))
theorem c165_is : compFn Try.prog 165 = some (c165, [(.tmp 4)]) := by kernel_rfl
theorem c165_ok : okFn Try.prog 165 = true := by kernel_rfl

noncomputable def F_laws_eqTurn (v0 : TTurn) (v1 : TTurn) : Option (Bool) :=
 (bif (decide (v0.1 ≠ v1.1)) then some false
 else (bif (decide (v0.2.1 ≠ v1.2.1)) then some false
 else (bif (decide (v0.2.2 ≠ v1.2.2)) then some false
 else some true)))
@[simp] def res_laws_eqTurn (r : Bool) : RV := .one (.one (.val (.bool r)))
theorem con_laws_eqTurn {v0 : TTurn} {v1 : TTurn} {r : Bool} (hF : F_laws_eqTurn v0 v1 = some r) : Con Try.prog 165 [eTurn v0, eTurn v1] (res_laws_eqTurn r) := by
 unfold F_laws_eqTurn at hF
 refine con_of c165_is fun N => ?_
 refine ws 0 192 ?_
 refine qf (.ptr 0 0 0) [(0, .box [AS v0.1, AI v0.2.1, AI v0.2.2])] (by simp) ?_
 refine qf (.ptr 64 0 0) [(64, .box [AS v1.1, AI v1.2.1, AI v1.2.2]), (0, .box [AS v0.1, AI v0.2.1, AI v0.2.2])] (by simp) ?_
 refine qp (AB false) rfl ?_
 refine r_nil ?_
 refine w_seq ?_
 refine ws 192 512 ?_
 refine qp (.ptr 0 0 0) rfl (qp (AS v0.1) rfl (qp (.ptr 64 0 0) rfl (qp (AS v1.1) rfl (qp (AB (decide (v0.1 ≠ v1.1))) rfl ?_))))
 refine r_nil ?_
 refine cF hF (fun hF => ?_) fun hF => ?_
 ·
  refine ws 512 576 ?_
  refine qp (AB false) rfl ?_
  refine r_nil ?_
  refine w_ret ?_
  refine thenQ_r ?_
  cases hF
  exact eR
 ·
  refine w_skip ?_
  refine thenQ_n ?_
  refine w_seq ?_
  refine ws 512 832 ?_
  refine qp (.ptr 0 0 1) rfl (qp (AI v0.2.1) rfl (qp (.ptr 64 0 1) rfl (qp (AI v1.2.1) rfl (qp (AB (decide (v0.2.1 ≠ v1.2.1))) rfl ?_))))
  refine r_nil ?_
  refine cF hF (fun hF => ?_) fun hF => ?_
  ·
   refine ws 832 896 ?_
   refine qp (AB false) rfl ?_
   refine r_nil ?_
   refine w_ret ?_
   refine thenQ_r ?_
   cases hF
   exact eR
  ·
   refine w_skip ?_
   refine thenQ_n ?_
   refine w_seq ?_
   refine ws 832 1152 ?_
   refine qp (.ptr 0 0 2) rfl (qp (AI v0.2.2) rfl (qp (.ptr 64 0 2) rfl (qp (AI v1.2.2) rfl (qp (AB (decide (v0.2.2 ≠ v1.2.2))) rfl ?_))))
   refine r_nil ?_
   refine cF hF (fun hF => ?_) fun hF => ?_
   ·
    refine ws 1152 1216 ?_
    refine qp (AB false) rfl ?_
    refine r_nil ?_
    refine w_ret ?_
    refine thenQ_r ?_
    cases hF
    exact eR
   ·
    refine w_skip ?_
    refine thenQ_n ?_
    refine ws 1152 1216 ?_
    refine qp (AB true) rfl ?_
    refine r_nil ?_
    refine w_ret ?_
    cases hF
    exact eR

def c56 : MC := (.seq (.reg [rg 4 (.p true (.mv (.c (.bool false))))]) (.seq (.seq (.reg [mvt 6 0, rg 7 (.p true (.len (.t 6))), mvt 8 1, rg 9 (.p true (.len (.t 8))), rg 10 (.p true (.bin .neq (.t 7) (.t 9)))]) (.cond (.t 10) (.seq (.reg [rg 4 (.p true (.mv (.c (.bool false))))]) .ret) .skip)) (.seq (.seq (.reg [rg 5 (.p true (.mv (.c (.int .i64 0))))]) (.block 0 (.loop (.seq (.seq (.reg [mvt 11 5, mvt 12 0, rg 13 (.p true (.len (.t 12))), rg 14 (.p true (.bin .lss (.t 11) (.t 13)))]) (.cond (.t 14) .skip (.exit 0))) (.seq (.block 1 (.seq (.reg [rg 17 (.p false (.mv (.t 0))), rg 18 (.p false (.mv (.t 5))), rg 19 (.p false (.iad (.t 17) (.t 18) 3)), rg 20 (.p false (.ld (.t 19) 3 true)), rg 21 (.p false (.mv (.t 1))), rg 22 (.p false (.mv (.t 5))), rg 23 (.p false (.iad (.t 21) (.t 22) 3)), rg 24 (.p false (.ld (.t 23) 3 true)), rg 25 (.call false 165 [(.t 20), (.t 24)]), rg 26 (.p false (.not (.t 25)))]) (.cond (.t 26) (.seq (.reg [rg 4 (.p true (.mv (.c (.bool false))))]) .ret) .skip))) (.reg [mvt 15 5, rg 16 (.p true (.bin .add (.t 15) (.c (.int .i64 1)))), mvt 5 16])))))) (.seq (.reg [rg 4 (.p true (.mv (.c (.bool true))))]) .ret))))
theorem c56_is : compFn Try.prog 56 = some (c56, [(.tmp 4)]) := by kernel_rfl
theorem c56_ok : okFn Try.prog 56 = true := by kernel_rfl

noncomputable def F_laws_eqTurnS_l0 (v0 : List TTurn) (v1 : List TTurn) (k0 : Int → Option (Bool)) : Int → Option (Bool)
 | v9 => (bif (decide (v9 < (v0.length : Int))) then ((ix v0 v9).bind fun v1000 => ((ix v1 v9).bind fun v1001 => ((F_laws_eqTurn v1000 v1001).bind fun v1002 => (bif (!v1002) then some false
 else k0 (w64 (v9 + 1))))))
 else some true)
noncomputable def F_laws_eqTurnS (v0 : List TTurn) (v1 : List TTurn) : Option (Bool) :=
 (bif (decide ((v0.length : Int) ≠ (v1.length : Int))) then some false
 else loop (F_laws_eqTurnS_l0 v0 v1) 0)
@[simp] def res_laws_eqTurnS (r : Bool) : RV := .one (.one (.val (.bool r)))
theorem con_laws_eqTurnS {v0 : List TTurn} {v1 : List TTurn} {r : Bool} (hF : F_laws_eqTurnS v0 v1 = some r) : Con Try.prog 56 [.sl 3 (v0.map eTurn), .sl 3 (v1.map eTurn)] (res_laws_eqTurnS r) := by
 unfold F_laws_eqTurnS at hF
 refine con_of c56_is fun N => ?_
 refine ws 0 64 ?_
 refine qp (AB false) rfl ?_
 refine r_nil ?_
 refine w_seq ?_
 refine ws 64 384 ?_
 refine qp (AL 3 (v0.map eTurn)) rfl (qp (AI (v0.length : Int)) (ev_len_n rfl) (qp (AL 3 (v1.map eTurn)) rfl (qp (AI (v1.length : Int)) (ev_len_n rfl) (qp (AB (decide ((v0.length : Int) ≠ (v1.length : Int)))) rfl ?_))))
 refine r_nil ?_
 refine cF hF (fun hF => ?_) fun hF => ?_
 ·
  refine ws 384 448 ?_
  refine qp (AB false) rfl ?_
  refine r_nil ?_
  refine w_ret ?_
  refine thenQ_r ?_
  cases hF
  exact eR
 ·
  refine w_skip ?_
  refine thenQ_n ?_
  refine w_seq ?_
  refine ws 384 448 ?_
  refine qp (AI 0) rfl ?_
  refine r_nil ?_
  refine w_block ?_
  refine wr (l' := [(0, AL 3 (v0.map eTurn)), (1, AL 3 (v1.map eTurn)), (5, AI 0)]) (L := []) [0, 1, 5] [] 1 ?_
  refine w_loopF (F_laws_eqTurnS_l0 v0 v1) (fun s : Int => mkS [(0, AL 3 (v0.map eTurn)), (1, AL 3 (v1.map eTurn)), (5, AI s)] (fo []) 1) hF ?_
  rintro k0 v9 hF
  rw [F_laws_eqTurnS_l0] at hF
  try dsimp only
  refine w_seq ?_
  refine ws 1 257 ?_
  refine qp (AI v9) rfl (qp (AL 3 (v0.map eTurn)) rfl (qp (AI (v0.length : Int)) (ev_len_n rfl) (qp (AB (decide (v9 < (v0.length : Int)))) rfl ?_)))
  refine r_nil ?_
  refine cF hF (fun hF => ?_) fun hF => ?_
  ·
   refine w_skip ?_
   refine thenQ_n ?_
   refine w_seq ?_
   refine w_block ?_
   refine ws 257 897 ?_
   refine qp (AL 3 (v0.map eTurn)) rfl (qp (AI v9) rfl ?_)
   obtain ⟨v1000, e1000, hF⟩ := bind_get hF
   refine qp (.val none (.ptr [.str v1000.1, .int .i64 v1000.2.1, .int .i64 v1000.2.2])) (ev_iad_n rfl rfl e1000 rfl) (qp (.val none (eTurn v1000)) rfl (qp (AL 3 (v1.map eTurn)) rfl (qp (AI v9) rfl ?_)))
   obtain ⟨v1001, e1001, hF⟩ := bind_get hF
   refine qp (.val none (.ptr [.str v1001.1, .int .i64 v1001.2.1, .int .i64 v1001.2.2])) (ev_iad_n rfl rfl e1001 rfl) (qp (.val none (eTurn v1001)) rfl ?_)
   obtain ⟨v1002, e1002, hF⟩ := bind_get hF
   refine qc (AB v1002) [] false (con_laws_eqTurn e1002) c165_ok (by first | rfl | simp) rfl ?_
   refine qp (AB (!v1002)) rfl ?_
   refine r_nil ?_
   refine cF hF (fun hF => ?_) fun hF => ?_
   ·
    refine ws 897 961 ?_
    refine qp (AB false) rfl ?_
    refine r_nil ?_
    refine w_ret ?_
    refine blockQ_r ?_
    refine thenQ_r ?_
    refine thenQ_r ?_
    refine blockQ_r ?_
    refine thenQ_r ?_
    cases hF
    exact eR
   ·
    refine w_skip ?_
    refine blockQ_n ?_
    refine thenQ_n ?_
    refine w_reg 897 1089 rfl rfl ?_
    refine qp (AI v9) rfl (qp (AI (w64 (v9 + 1))) rfl (qp (AI (w64 (v9 + 1))) rfl ?_))
    refine r_nil ?_
    refine thenQ_n ?_
    refine ar (l' := [(0, AL 3 (v0.map eTurn)), (1, AL 3 (v1.map eTurn)), (5, AI (w64 (v9 + 1)))]) (L := []) [0, 1, 5] [] 1 ⟨_, by rfl, hF⟩
  ·
   refine w_exit ?_
   refine thenQ_e ?_
   refine thenQ_e ?_
   refine blockQ_e ?_
   refine thenQ_n ?_
   refine ws 257 321 ?_
   refine qp (AB true) rfl ?_
   refine r_nil ?_
   refine w_ret ?_
   cases hF
   exact eR

end Go.Ab
