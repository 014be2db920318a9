/- Walks (printed by auto.py, a program of this session's own). -/
import Derived.Test.YtlboickhkhbffaaU0
import Derived.Test.YtlboickhkhbffaaProg
import Derived.KernelRfl
import Derived.Test.YtlboickhkhbffaaSQ
set_option linter.unusedVariables false
set_option linter.unusedSimpArgs false
set_option maxRecDepth 8000
set_option maxHeartbeats 8000000
namespace Go.Ab
open Go.RowKit Go.Proofs

def c15 : MC := (.seq (.reg [rg 1 (.f (.box (.t 0))), rg 2 (.f (.alloc [((.str []), (0, false)), ((.sl 0 []), (1, false)), ((.sl 0 []), (1, false)), ((.int .i64 0), (0, false)), ((.int .i64 0), (0, false)), ((.sl 0 []), (1, false)), ((.sl 0 []), (2, false)), ((.str []), (0, false)), ((.sl 0 []), (2, false)), ((.sl 0 []), (1, false)), ((.sl 0 []), (3, false)), ((.sl 0 []), (2, false)), ((.sl 0 []), (6, false)), ((.sl 0 []), (5, false)), ((.sl 0 []), (3, false))]))]) (.seq (.reg [rg 3 (.f (.alloc [((.str []), (0, false)), ((.sl 0 []), (1, false)), ((.sl 0 []), (1, false)), ((.int .i64 0), (0, false)), ((.int .i64 0), (0, false)), ((.sl 0 []), (1, false)), ((.sl 0 []), (2, false)), ((.str []), (0, false)), ((.sl 0 []), (2, false)), ((.sl 0 []), (1, false)), ((.sl 0 []), (3, false)), ((.sl 0 []), (2, false)), ((.sl 0 []), (6, false)), ((.sl 0 []), (5, false)), ((.sl 0 []), (3, false))]))]) (.seq (.reg [rg 4 (.p true (.fad (.t 1) 0)), rg 5 (.p true (.ld (.t 4) 6 true)), rg 6 (.call true 45 [(.t 5)]), rg 7 (.p true (.fad (.t 3) 0)), ⟨none, none, (.f (.st (.t 7) (.t 6) 6))⟩]) (.seq (.reg [rg 8 (.p true (.fad (.t 1) 6)), rg 9 (.p true (.ld (.t 8) 1 false)), rg 10 (.call true 46 [(.t 9)]), rg 11 (.p true (.fad (.t 3) 6)), ⟨none, none, (.f (.st (.t 11) (.t 10) 1))⟩]) (.seq (.reg [rg 12 (.p true (.fad (.t 1) 7)), rg 13 (.p true (.ld (.t 12) 2 true)), rg 14 (.call true 68 [(.t 13)]), rg 15 (.p true (.fad (.t 3) 7)), ⟨none, none, (.f (.st (.t 15) (.t 14) 2))⟩]) (.seq (.reg [rg 16 (.p true (.fad (.t 1) 9)), rg 17 (.p true (.ld (.t 16) 1 false)), rg 18 (.call true 69 [(.t 17)]), rg 19 (.p true (.fad (.t 3) 9)), ⟨none, none, (.f (.st (.t 19) (.t 18) 1))⟩]) (.seq (.reg [rg 20 (.p true (.fad (.t 1) 10)), rg 21 (.p true (.ld (.t 20) 1 false)), rg 22 (.call true 70 [(.t 21)]), rg 23 (.p true (.fad (.t 3) 10)), ⟨none, none, (.f (.st (.t 23) (.t 22) 1))⟩]) (.seq (.reg [rg 24 (.p true (.fad (.t 1) 11)), rg 25 (.p true (.ld (.t 24) 1 false)), rg 26 (.call true 71 [(.t 25)]), rg 27 (.p true (.fad (.t 3) 11)), ⟨none, none, (.f (.st (.t 27) (.t 26) 1))⟩]) (.seq (.reg [rg 28 (.p true (.fad (.t 1) 12)), rg 29 (.p true (.ld (.t 28) 1 false)), rg 30 (.call true 72 [(.t 29)]), rg 31 (.p true (.fad (.t 3) 12)), ⟨none, none, (.f (.st (.t 31) (.t 30) 1))⟩]) (.seq (.reg [rg 32 (.p true (.fad (.t 1) 13)), rg 33 (.p true (.ld (.t 32) 1 false)), rg 34 (.call true 21 [(.t 33)]), rg 35 (.p true (.fad (.t 3) 13)), ⟨none, none, (.f (.st (.t 35) (.t 34) 1))⟩]) (.seq (.reg [rg 36 (.p true (.fad (.t 1) 14)), rg 37 (.p true (.ld (.t 36) 1 false)), rg 38 (.call true 73 [(.t 37)]), rg 39 (.p true (.fad (.t 3) 14)), ⟨none, none, (.f (.st (.t 39) (.t 38) 1))⟩]) (.seq (.reg [rg 40 (.p true (.ld (.t 3) 15 true)), ⟨none, none, (.f (.st (.t 2) (.t 40) 15))⟩]) .ret))))))))))))
theorem c15_is : compFn Try.prog 15 = some (c15, [(.cell (.ld (.t 2) 15 true))]) := by kernel_rfl
theorem c15_ok : okFn Try.prog 15 = true := by kernel_rfl

noncomputable def F_laws_toDesk (v0 : TDesk) : Option (TDesk) :=
 ((F_laws_toRaga (v0.1, v0.2.1, v0.2.2.1, v0.2.2.2.1, v0.2.2.2.2.1, v0.2.2.2.2.2.1)).bind fun v1000 => ((F_laws_toNoteS v0.2.2.2.2.2.2.1).bind fun v1001 => ((F_laws_toTuning (v0.2.2.2.2.2.2.2.1, v0.2.2.2.2.2.2.2.2.1)).bind fun v1002 => ((F_laws_toInt64SS v0.2.2.2.2.2.2.2.2.2.1).bind fun v1003 => ((F_laws_toSyllableS v0.2.2.2.2.2.2.2.2.2.2.1).bind fun v1004 => ((F_laws_toTempoMarkS v0.2.2.2.2.2.2.2.2.2.2.2.1).bind fun v1005 => ((F_laws_toItemS v0.2.2.2.2.2.2.2.2.2.2.2.2.1).bind fun v1006 => ((F_laws_toLessonS v0.2.2.2.2.2.2.2.2.2.2.2.2.2.1).bind fun v1007 => ((F_laws_toPersonS v0.2.2.2.2.2.2.2.2.2.2.2.2.2.2).bind fun v1008 => some (v1000.1, v1000.2.1, v1000.2.2.1, v1000.2.2.2.1, v1000.2.2.2.2.1, v1000.2.2.2.2.2, v1001, v1002.1, v1002.2, v1003, v1004, v1005, v1006, v1007, v1008))))))))))
@[simp] def res_laws_toDesk (r : TDesk) : RV := .one (.agg [.val (.str r.1), .row true 1 (r.2.1.map (V.int .i64)), .row true 1 (r.2.2.1.map (V.int .i64)), .val (.int .i64 r.2.2.2.1), .val (.int .i64 r.2.2.2.2.1), .row true 1 (r.2.2.2.2.2.1.map (eL 1 (V.int .i64))), .row true 2 (r.2.2.2.2.2.2.1.map eNote), .val (.str r.2.2.2.2.2.2.2.1), .row true 2 (r.2.2.2.2.2.2.2.2.1.map eNote), .row true 1 (r.2.2.2.2.2.2.2.2.2.1.map (eL 1 (V.int .i64))), .row true 3 (r.2.2.2.2.2.2.2.2.2.2.1.map eSyllable), .row true 2 (r.2.2.2.2.2.2.2.2.2.2.2.1.map eNote), .row true 6 (r.2.2.2.2.2.2.2.2.2.2.2.2.1.map eItem), .row true 5 (r.2.2.2.2.2.2.2.2.2.2.2.2.2.1.map eLesson), .row true 3 (r.2.2.2.2.2.2.2.2.2.2.2.2.2.2.map ePerson)])
theorem con_laws_toDesk {v0 : TDesk} {r : TDesk} (hF : F_laws_toDesk v0 = some r) : Con Try.prog 15 [eDesk v0] (res_laws_toDesk r) := by
 unfold F_laws_toDesk at hF
 refine con_of c15_is fun N => ?_
 refine ws 0 128 ?_
 refine qf (.ptr 0 0 0) [(0, .box [AS v0.1, AL 1 (v0.2.1.map (V.int .i64)), AL 1 (v0.2.2.1.map (V.int .i64)), AI v0.2.2.2.1, AI v0.2.2.2.2.1, AL 1 (v0.2.2.2.2.2.1.map (eL 1 (V.int .i64))), AL 2 (v0.2.2.2.2.2.2.1.map eNote), AS v0.2.2.2.2.2.2.2.1, AL 2 (v0.2.2.2.2.2.2.2.2.1.map eNote), AL 1 (v0.2.2.2.2.2.2.2.2.2.1.map (eL 1 (V.int .i64))), AL 3 (v0.2.2.2.2.2.2.2.2.2.2.1.map eSyllable), AL 2 (v0.2.2.2.2.2.2.2.2.2.2.2.1.map eNote), AL 6 (v0.2.2.2.2.2.2.2.2.2.2.2.2.1.map eItem), AL 5 (v0.2.2.2.2.2.2.2.2.2.2.2.2.2.1.map eLesson), AL 3 (v0.2.2.2.2.2.2.2.2.2.2.2.2.2.2.map ePerson)])] (by simp) ?_
 refine qf (.ptr 64 0 0) [(64, .box [AS [], .sl 65 0 0, .sl 66 0 0, AI 0, AI 0, .sl 67 0 0, .sl 68 0 0, AS [], .sl 69 0 0, .sl 70 0 0, .sl 71 0 0, .sl 72 0 0, .sl 73 0 0, .sl 74 0 0, .sl 75 0 0]), (75, .row true 3 (([] : List Int).map (V.int .i64))), (74, .row true 5 (([] : List Int).map (V.int .i64))), (73, .row true 6 (([] : List Int).map (V.int .i64))), (72, .row true 2 (([] : List Int).map (V.int .i64))), (71, .row true 3 (([] : List Int).map (V.int .i64))), (70, .row true 1 (([] : List Int).map (V.int .i64))), (69, .row true 2 (([] : List Int).map (V.int .i64))), (68, .row true 2 (([] : List Int).map (V.int .i64))), (67, .row true 1 (([] : List Int).map (V.int .i64))), (66, .row true 1 (([] : List Int).map (V.int .i64))), (65, .row true 1 (([] : List Int).map (V.int .i64))), (0, .box [AS v0.1, AL 1 (v0.2.1.map (V.int .i64)), AL 1 (v0.2.2.1.map (V.int .i64)), AI v0.2.2.2.1, AI v0.2.2.2.2.1, AL 1 (v0.2.2.2.2.2.1.map (eL 1 (V.int .i64))), AL 2 (v0.2.2.2.2.2.2.1.map eNote), AS v0.2.2.2.2.2.2.2.1, AL 2 (v0.2.2.2.2.2.2.2.2.1.map eNote), AL 1 (v0.2.2.2.2.2.2.2.2.2.1.map (eL 1 (V.int .i64))), AL 3 (v0.2.2.2.2.2.2.2.2.2.2.1.map eSyllable), AL 2 (v0.2.2.2.2.2.2.2.2.2.2.2.1.map eNote), AL 6 (v0.2.2.2.2.2.2.2.2.2.2.2.2.1.map eItem), AL 5 (v0.2.2.2.2.2.2.2.2.2.2.2.2.2.1.map eLesson), AL 3 (v0.2.2.2.2.2.2.2.2.2.2.2.2.2.2.map ePerson)])] (by simp) ?_
 refine r_nil ?_
 refine ws 128 192 ?_
 refine qf (.ptr 128 0 0) [(128, .box [AS [], .sl 129 0 0, .sl 130 0 0, AI 0, AI 0, .sl 131 0 0, .sl 132 0 0, AS [], .sl 133 0 0, .sl 134 0 0, .sl 135 0 0, .sl 136 0 0, .sl 137 0 0, .sl 138 0 0, .sl 139 0 0]), (139, .row true 3 (([] : List Int).map (V.int .i64))), (138, .row true 5 (([] : List Int).map (V.int .i64))), (137, .row true 6 (([] : List Int).map (V.int .i64))), (136, .row true 2 (([] : List Int).map (V.int .i64))), (135, .row true 3 (([] : List Int).map (V.int .i64))), (134, .row true 1 (([] : List Int).map (V.int .i64))), (133, .row true 2 (([] : List Int).map (V.int .i64))), (132, .row true 2 (([] : List Int).map (V.int .i64))), (131, .row true 1 (([] : List Int).map (V.int .i64))), (130, .row true 1 (([] : List Int).map (V.int .i64))), (129, .row true 1 (([] : List Int).map (V.int .i64))), (64, .box [AS [], .sl 65 0 0, .sl 66 0 0, AI 0, AI 0, .sl 67 0 0, .sl 68 0 0, AS [], .sl 69 0 0, .sl 70 0 0, .sl 71 0 0, .sl 72 0 0, .sl 73 0 0, .sl 74 0 0, .sl 75 0 0]), (75, .row true 3 (([] : List Int).map (V.int .i64))), (74, .row true 5 (([] : List Int).map (V.int .i64))), (73, .row true 6 (([] : List Int).map (V.int .i64))), (72, .row true 2 (([] : List Int).map (V.int .i64))), (71, .row true 3 (([] : List Int).map (V.int .i64))), (70, .row true 1 (([] : List Int).map (V.int .i64))), (69, .row true 2 (([] : List Int).map (V.int .i64))), (68, .row true 2 (([] : List Int).map (V.int .i64))), (67, .row true 1 (([] : List Int).map (V.int .i64))), (66, .row true 1 (([] : List Int).map (V.int .i64))), (65, .row true 1 (([] : List Int).map (V.int .i64))), (0, .box [AS v0.1, AL 1 (v0.2.1.map (V.int .i64)), AL 1 (v0.2.2.1.map (V.int .i64)), AI v0.2.2.2.1, AI v0.2.2.2.2.1, AL 1 (v0.2.2.2.2.2.1.map (eL 1 (V.int .i64))), AL 2 (v0.2.2.2.2.2.2.1.map eNote), AS v0.2.2.2.2.2.2.2.1, AL 2 (v0.2.2.2.2.2.2.2.2.1.map eNote), AL 1 (v0.2.2.2.2.2.2.2.2.2.1.map (eL 1 (V.int .i64))), AL 3 (v0.2.2.2.2.2.2.2.2.2.2.1.map eSyllable), AL 2 (v0.2.2.2.2.2.2.2.2.2.2.2.1.map eNote), AL 6 (v0.2.2.2.2.2.2.2.2.2.2.2.2.1.map eItem), AL 5 (v0.2.2.2.2.2.2.2.2.2.2.2.2.2.1.map eLesson), AL 3 (v0.2.2.2.2.2.2.2.2.2.2.2.2.2.2.map ePerson)])] (by simp) ?_
 refine r_nil ?_
 refine ws 192 512 ?_
 refine qp (.ptr 0 0 0) rfl (qp (.agg [AS v0.1, AL 1 (v0.2.1.map (V.int .i64)), AL 1 (v0.2.2.1.map (V.int .i64)), AI v0.2.2.2.1, AI v0.2.2.2.2.1, AL 1 (v0.2.2.2.2.2.1.map (eL 1 (V.int .i64)))]) rfl ?_)
 obtain ⟨v1000, e1000, hF⟩ := bind_get hF
 refine qc (.agg [AS v1000.1, .sl 321 0 v1000.2.1.length, .sl 322 0 v1000.2.2.1.length, AI v1000.2.2.2.1, AI v1000.2.2.2.2.1, .sl 325 0 v1000.2.2.2.2.2.length]) [(325, .row true 1 (v1000.2.2.2.2.2.map (eL 1 (V.int .i64)))), (322, .row true 1 (v1000.2.2.1.map (V.int .i64))), (321, .row true 1 (v1000.2.1.map (V.int .i64))), (128, .box [AS [], .sl 129 0 0, .sl 130 0 0, AI 0, AI 0, .sl 131 0 0, .sl 132 0 0, AS [], .sl 133 0 0, .sl 134 0 0, .sl 135 0 0, .sl 136 0 0, .sl 137 0 0, .sl 138 0 0, .sl 139 0 0]), (139, .row true 3 (([] : List Int).map (V.int .i64))), (138, .row true 5 (([] : List Int).map (V.int .i64))), (137, .row true 6 (([] : List Int).map (V.int .i64))), (136, .row true 2 (([] : List Int).map (V.int .i64))), (135, .row true 3 (([] : List Int).map (V.int .i64))), (134, .row true 1 (([] : List Int).map (V.int .i64))), (133, .row true 2 (([] : List Int).map (V.int .i64))), (132, .row true 2 (([] : List Int).map (V.int .i64))), (131, .row true 1 (([] : List Int).map (V.int .i64))), (130, .row true 1 (([] : List Int).map (V.int .i64))), (129, .row true 1 (([] : List Int).map (V.int .i64))), (64, .box [AS [], .sl 65 0 0, .sl 66 0 0, AI 0, AI 0, .sl 67 0 0, .sl 68 0 0, AS [], .sl 69 0 0, .sl 70 0 0, .sl 71 0 0, .sl 72 0 0, .sl 73 0 0, .sl 74 0 0, .sl 75 0 0]), (75, .row true 3 (([] : List Int).map (V.int .i64))), (74, .row true 5 (([] : List Int).map (V.int .i64))), (73, .row true 6 (([] : List Int).map (V.int .i64))), (72, .row true 2 (([] : List Int).map (V.int .i64))), (71, .row true 3 (([] : List Int).map (V.int .i64))), (70, .row true 1 (([] : List Int).map (V.int .i64))), (69, .row true 2 (([] : List Int).map (V.int .i64))), (68, .row true 2 (([] : List Int).map (V.int .i64))), (67, .row true 1 (([] : List Int).map (V.int .i64))), (66, .row true 1 (([] : List Int).map (V.int .i64))), (65, .row true 1 (([] : List Int).map (V.int .i64))), (0, .box [AS v0.1, AL 1 (v0.2.1.map (V.int .i64)), AL 1 (v0.2.2.1.map (V.int .i64)), AI v0.2.2.2.1, AI v0.2.2.2.2.1, AL 1 (v0.2.2.2.2.2.1.map (eL 1 (V.int .i64))), AL 2 (v0.2.2.2.2.2.2.1.map eNote), AS v0.2.2.2.2.2.2.2.1, AL 2 (v0.2.2.2.2.2.2.2.2.1.map eNote), AL 1 (v0.2.2.2.2.2.2.2.2.2.1.map (eL 1 (V.int .i64))), AL 3 (v0.2.2.2.2.2.2.2.2.2.2.1.map eSyllable), AL 2 (v0.2.2.2.2.2.2.2.2.2.2.2.1.map eNote), AL 6 (v0.2.2.2.2.2.2.2.2.2.2.2.2.1.map eItem), AL 5 (v0.2.2.2.2.2.2.2.2.2.2.2.2.2.1.map eLesson), AL 3 (v0.2.2.2.2.2.2.2.2.2.2.2.2.2.2.map ePerson)])] false (con_laws_toRaga e1000) c45_ok (by first | rfl | simp) (by simp [res_laws_toRaga]) ?_
 refine qp (.ptr 128 0 0) rfl ?_
 refine qf0 (.undef) [(128, .box [AS v1000.1, .sl 321 0 v1000.2.1.length, .sl 322 0 v1000.2.2.1.length, AI v1000.2.2.2.1, AI v1000.2.2.2.2.1, .sl 325 0 v1000.2.2.2.2.2.length, .sl 132 0 0, AS [], .sl 133 0 0, .sl 134 0 0, .sl 135 0 0, .sl 136 0 0, .sl 137 0 0, .sl 138 0 0, .sl 139 0 0]), (325, .row true 1 (v1000.2.2.2.2.2.map (eL 1 (V.int .i64)))), (322, .row true 1 (v1000.2.2.1.map (V.int .i64))), (321, .row true 1 (v1000.2.1.map (V.int .i64))), (128, .box [AS [], .sl 129 0 0, .sl 130 0 0, AI 0, AI 0, .sl 131 0 0, .sl 132 0 0, AS [], .sl 133 0 0, .sl 134 0 0, .sl 135 0 0, .sl 136 0 0, .sl 137 0 0, .sl 138 0 0, .sl 139 0 0]), (139, .row true 3 (([] : List Int).map (V.int .i64))), (138, .row true 5 (([] : List Int).map (V.int .i64))), (137, .row true 6 (([] : List Int).map (V.int .i64))), (136, .row true 2 (([] : List Int).map (V.int .i64))), (135, .row true 3 (([] : List Int).map (V.int .i64))), (134, .row true 1 (([] : List Int).map (V.int .i64))), (133, .row true 2 (([] : List Int).map (V.int .i64))), (132, .row true 2 (([] : List Int).map (V.int .i64))), (131, .row true 1 (([] : List Int).map (V.int .i64))), (130, .row true 1 (([] : List Int).map (V.int .i64))), (129, .row true 1 (([] : List Int).map (V.int .i64))), (64, .box [AS [], .sl 65 0 0, .sl 66 0 0, AI 0, AI 0, .sl 67 0 0, .sl 68 0 0, AS [], .sl 69 0 0, .sl 70 0 0, .sl 71 0 0, .sl 72 0 0, .sl 73 0 0, .sl 74 0 0, .sl 75 0 0]), (75, .row true 3 (([] : List Int).map (V.int .i64))), (74, .row true 5 (([] : List Int).map (V.int .i64))), (73, .row true 6 (([] : List Int).map (V.int .i64))), (72, .row true 2 (([] : List Int).map (V.int .i64))), (71, .row true 3 (([] : List Int).map (V.int .i64))), (70, .row true 1 (([] : List Int).map (V.int .i64))), (69, .row true 2 (([] : List Int).map (V.int .i64))), (68, .row true 2 (([] : List Int).map (V.int .i64))), (67, .row true 1 (([] : List Int).map (V.int .i64))), (66, .row true 1 (([] : List Int).map (V.int .i64))), (65, .row true 1 (([] : List Int).map (V.int .i64))), (0, .box [AS v0.1, AL 1 (v0.2.1.map (V.int .i64)), AL 1 (v0.2.2.1.map (V.int .i64)), AI v0.2.2.2.1, AI v0.2.2.2.2.1, AL 1 (v0.2.2.2.2.2.1.map (eL 1 (V.int .i64))), AL 2 (v0.2.2.2.2.2.2.1.map eNote), AS v0.2.2.2.2.2.2.2.1, AL 2 (v0.2.2.2.2.2.2.2.2.1.map eNote), AL 1 (v0.2.2.2.2.2.2.2.2.2.1.map (eL 1 (V.int .i64))), AL 3 (v0.2.2.2.2.2.2.2.2.2.2.1.map eSyllable), AL 2 (v0.2.2.2.2.2.2.2.2.2.2.2.1.map eNote), AL 6 (v0.2.2.2.2.2.2.2.2.2.2.2.2.1.map eItem), AL 5 (v0.2.2.2.2.2.2.2.2.2.2.2.2.2.1.map eLesson), AL 3 (v0.2.2.2.2.2.2.2.2.2.2.2.2.2.2.map ePerson)])] (by simp) ?_
 refine r_nil ?_
 refine ws 512 832 ?_
 refine qp (.ptr 0 0 6) rfl (qp (AL 2 (v0.2.2.2.2.2.2.1.map eNote)) rfl ?_)
 obtain ⟨v1001, e1001, hF⟩ := bind_get hF
 refine qc (.sl 640 0 v1001.length) [(640, .row true 2 (v1001.map eNote)), (128, .box [AS v1000.1, .sl 321 0 v1000.2.1.length, .sl 322 0 v1000.2.2.1.length, AI v1000.2.2.2.1, AI v1000.2.2.2.2.1, .sl 325 0 v1000.2.2.2.2.2.length, .sl 132 0 0, AS [], .sl 133 0 0, .sl 134 0 0, .sl 135 0 0, .sl 136 0 0, .sl 137 0 0, .sl 138 0 0, .sl 139 0 0]), (325, .row true 1 (v1000.2.2.2.2.2.map (eL 1 (V.int .i64)))), (322, .row true 1 (v1000.2.2.1.map (V.int .i64))), (321, .row true 1 (v1000.2.1.map (V.int .i64))), (128, .box [AS [], .sl 129 0 0, .sl 130 0 0, AI 0, AI 0, .sl 131 0 0, .sl 132 0 0, AS [], .sl 133 0 0, .sl 134 0 0, .sl 135 0 0, .sl 136 0 0, .sl 137 0 0, .sl 138 0 0, .sl 139 0 0]), (139, .row true 3 (([] : List Int).map (V.int .i64))), (138, .row true 5 (([] : List Int).map (V.int .i64))), (137, .row true 6 (([] : List Int).map (V.int .i64))), (136, .row true 2 (([] : List Int).map (V.int .i64))), (135, .row true 3 (([] : List Int).map (V.int .i64))), (134, .row true 1 (([] : List Int).map (V.int .i64))), (133, .row true 2 (([] : List Int).map (V.int .i64))), (132, .row true 2 (([] : List Int).map (V.int .i64))), (131, .row true 1 (([] : List Int).map (V.int .i64))), (130, .row true 1 (([] : List Int).map (V.int .i64))), (129, .row true 1 (([] : List Int).map (V.int .i64))), (64, .box [AS [], .sl 65 0 0, .sl 66 0 0, AI 0, AI 0, .sl 67 0 0, .sl 68 0 0, AS [], .sl 69 0 0, .sl 70 0 0, .sl 71 0 0, .sl 72 0 0, .sl 73 0 0, .sl 74 0 0, .sl 75 0 0]), (75, .row true 3 (([] : List Int).map (V.int .i64))), (74, .row true 5 (([] : List Int).map (V.int .i64))), (73, .row true 6 (([] : List Int).map (V.int .i64))), (72, .row true 2 (([] : List Int).map (V.int .i64))), (71, .row true 3 (([] : List Int).map (V.int .i64))), (70, .row true 1 (([] : List Int).map (V.int .i64))), (69, .row true 2 (([] : List Int).map (V.int .i64))), (68, .row true 2 (([] : List Int).map (V.int .i64))), (67, .row true 1 (([] : List Int).map (V.int .i64))), (66, .row true 1 (([] : List Int).map (V.int .i64))), (65, .row true 1 (([] : List Int).map (V.int .i64))), (0, .box [AS v0.1, AL 1 (v0.2.1.map (V.int .i64)), AL 1 (v0.2.2.1.map (V.int .i64)), AI v0.2.2.2.1, AI v0.2.2.2.2.1, AL 1 (v0.2.2.2.2.2.1.map (eL 1 (V.int .i64))), AL 2 (v0.2.2.2.2.2.2.1.map eNote), AS v0.2.2.2.2.2.2.2.1, AL 2 (v0.2.2.2.2.2.2.2.2.1.map eNote), AL 1 (v0.2.2.2.2.2.2.2.2.2.1.map (eL 1 (V.int .i64))), AL 3 (v0.2.2.2.2.2.2.2.2.2.2.1.map eSyllable), AL 2 (v0.2.2.2.2.2.2.2.2.2.2.2.1.map eNote), AL 6 (v0.2.2.2.2.2.2.2.2.2.2.2.2.1.map eItem), AL 5 (v0.2.2.2.2.2.2.2.2.2.2.2.2.2.1.map eLesson), AL 3 (v0.2.2.2.2.2.2.2.2.2.2.2.2.2.2.map ePerson)])] false (con_laws_toNoteS e1001) c46_ok (by first | rfl | simp) (by simp [res_laws_toNoteS]) ?_
 refine qp (.ptr 128 0 6) rfl ?_
 refine qf0 (.undef) [(128, .box [AS v1000.1, .sl 321 0 v1000.2.1.length, .sl 322 0 v1000.2.2.1.length, AI v1000.2.2.2.1, AI v1000.2.2.2.2.1, .sl 325 0 v1000.2.2.2.2.2.length, .sl 640 0 v1001.length, AS [], .sl 133 0 0, .sl 134 0 0, .sl 135 0 0, .sl 136 0 0, .sl 137 0 0, .sl 138 0 0, .sl 139 0 0]), (640, .row true 2 (v1001.map eNote)), (128, .box [AS v1000.1, .sl 321 0 v1000.2.1.length, .sl 322 0 v1000.2.2.1.length, AI v1000.2.2.2.1, AI v1000.2.2.2.2.1, .sl 325 0 v1000.2.2.2.2.2.length, .sl 132 0 0, AS [], .sl 133 0 0, .sl 134 0 0, .sl 135 0 0, .sl 136 0 0, .sl 137 0 0, .sl 138 0 0, .sl 139 0 0]), (325, .row true 1 (v1000.2.2.2.2.2.map (eL 1 (V.int .i64)))), (322, .row true 1 (v1000.2.2.1.map (V.int .i64))), (321, .row true 1 (v1000.2.1.map (V.int .i64))), (128, .box [AS [], .sl 129 0 0, .sl 130 0 0, AI 0, AI 0, .sl 131 0 0, .sl 132 0 0, AS [], .sl 133 0 0, .sl 134 0 0, .sl 135 0 0, .sl 136 0 0, .sl 137 0 0, .sl 138 0 0, .sl 139 0 0]), (139, .row true 3 (([] : List Int).map (V.int .i64))), (138, .row true 5 (([] : List Int).map (V.int .i64))), (137, .row true 6 (([] : List Int).map (V.int .i64))), (136, .row true 2 (([] : List Int).map (V.int .i64))), (135, .row true 3 (([] : List Int).map (V.int .i64))), (134, .row true 1 (([] : List Int).map (V.int .i64))), (133, .row true 2 (([] : List Int).map (V.int .i64))), (132, .row true 2 (([] : List Int).map (V.int .i64))), (131, .row true 1 (([] : List Int).map (V.int .i64))), (130, .row true 1 (([] : List Int).map (V.int .i64))), (129, .row true 1 (([] : List Int).map (V.int .i64))), (64, .box [AS [], .sl 65 0 0, .sl 66 0 0, AI 0, AI 0, .sl 67 0 0, .sl 68 0 0, AS [], .sl 69 0 0, .sl 70 0 0, .sl 71 0 0, .sl 72 0 0, .sl 73 0 0, .sl 74 0 0, .sl 75 0 0]), (75, .row true 3 (([] : List Int).map (V.int .i64))), (74, .row true 5 (([] : List Int).map (V.int .i64))), (73, .row true 6 (([] : List Int).map (V.int .i64))), (72, .row true 2 (([] : List Int).map (V.int .i64))), (71, .row true 3 (([] : List Int).map (V.int .i64))), (70, .row true 1 (([] : List Int).map (V.int .i64))), (69, .row true 2 (([] : List Int).map (V.int .i64))), (68, .row true 2 (([] : List Int).map (V.int .i64))), (67, .row true 1 (([] : List Int).map (V.int .i64))), (66, .row true 1 (([] : List Int).map (V.int .i64))), (65, .row true 1 (([] : List Int).map (V.int .i64))), (0, .box [AS v0.1, AL 1 (v0.2.1.map (V.int .i64)), AL 1 (v0.2.2.1.map (V.int .i64)), AI v0.2.2.2.1, AI v0.2.2.2.2.1, AL 1 (v0.2.2.2.2.2.1.map (eL 1 (V.int .i64))), AL 2 (v0.2.2.2.2.2.2.1.map eNote), AS v0.2.2.2.2.2.2.2.1, AL 2 (v0.2.2.2.2.2.2.2.2.1.map eNote), AL 1 (v0.2.2.2.2.2.2.2.2.2.1.map (eL 1 (V.int .i64))), AL 3 (v0.2.2.2.2.2.2.2.2.2.2.1.map eSyllable), AL 2 (v0.2.2.2.2.2.2.2.2.2.2.2.1.map eNote), AL 6 (v0.2.2.2.2.2.2.2.2.2.2.2.2.1.map eItem), AL 5 (v0.2.2.2.2.2.2.2.2.2.2.2.2.2.1.map eLesson), AL 3 (v0.2.2.2.2.2.2.2.2.2.2.2.2.2.2.map ePerson)])] (by simp) ?_
 refine r_nil ?_
 refine ws 832 1152 ?_
 refine qp (.ptr 0 0 7) rfl (qp (.agg [AS v0.2.2.2.2.2.2.2.1, AL 2 (v0.2.2.2.2.2.2.2.2.1.map eNote)]) rfl ?_)
 obtain ⟨v1002, e1002, hF⟩ := bind_get hF
 refine qc (.agg [AS v1002.1, .sl 961 0 v1002.2.length]) [(961, .row true 2 (v1002.2.map eNote)), (128, .box [AS v1000.1, .sl 321 0 v1000.2.1.length, .sl 322 0 v1000.2.2.1.length, AI v1000.2.2.2.1, AI v1000.2.2.2.2.1, .sl 325 0 v1000.2.2.2.2.2.length, .sl 640 0 v1001.length, AS [], .sl 133 0 0, .sl 134 0 0, .sl 135 0 0, .sl 136 0 0, .sl 137 0 0, .sl 138 0 0, .sl 139 0 0]), (640, .row true 2 (v1001.map eNote)), (128, .box [AS v1000.1, .sl 321 0 v1000.2.1.length, .sl 322 0 v1000.2.2.1.length, AI v1000.2.2.2.1, AI v1000.2.2.2.2.1, .sl 325 0 v1000.2.2.2.2.2.length, .sl 132 0 0, AS [], .sl 133 0 0, .sl 134 0 0, .sl 135 0 0, .sl 136 0 0, .sl 137 0 0, .sl 138 0 0, .sl 139 0 0]), (325, .row true 1 (v1000.2.2.2.2.2.map (eL 1 (V.int .i64)))), (322, .row true 1 (v1000.2.2.1.map (V.int .i64))), (321, .row true 1 (v1000.2.1.map (V.int .i64))), (128, .box [AS [], .sl 129 0 0, .sl 130 0 0, AI 0, AI 0, .sl 131 0 0, .sl 132 0 0, AS [], .sl 133 0 0, .sl 134 0 0, .sl 135 0 0, .sl 136 0 0, .sl 137 0 0, .sl 138 0 0, .sl 139 0 0]), (139, .row true 3 (([] : List Int).map (V.int .i64))), (138, .row true 5 (([] : List Int).map (V.int .i64))), (137, .row true 6 (([] : List Int).map (V.int .i64))), (136, .row true 2 (([] : List Int).map (V.int .i64))), (135, .row true 3 (([] : List Int).map (V.int .i64))), (134, .row true 1 (([] : List Int).map (V.int .i64))), (133, .row true 2 (([] : List Int).map (V.int .i64))), (132, .row true 2 (([] : List Int).map (V.int .i64))), (131, .row true 1 (([] : List Int).map (V.int .i64))), (130, .row true 1 (([] : List Int).map (V.int .i64))), (129, .row true 1 (([] : List Int).map (V.int .i64))), (64, .box [AS [], .sl 65 0 0, .sl 66 0 0, AI 0, AI 0, .sl 67 0 0, .sl 68 0 0, AS [], .sl 69 0 0, .sl 70 0 0, .sl 71 0 0, .sl 72 0 0, .sl 73 0 0, .sl 74 0 0, .sl 75 0 0]), (75, .row true 3 (([] : List Int).map (V.int .i64))), (74, .row true 5 (([] : List Int).map (V.int .i64))), (73, .row true 6 (([] : List Int).map (V.int .i64))), (72, .row true 2 (([] : List Int).map (V.int .i64))), (71, .row true 3 (([] : List Int).map (V.int .i64))), (70, .row true 1 (([] : List Int).map (V.int .i64))), (69, .row true 2 (([] : List Int).map (V.int .i64))), (68, .row true 2 (([] : List Int).map (V.int .i64))), (67, .row true 1 (([] : List Int).map (V.int .i64))), (66, .row true 1 (([] : List Int).map (V.int .i64))), (65, .row true 1 (([] : List Int).map (V.int .i64))), (0, .box [AS v0.1, AL 1 (v0.2.1.map (V.int .i64)), AL 1 (v0.2.2.1.map (V.int .i64)), AI v0.2.2.2.1, AI v0.2.2.2.2.1, AL 1 (v0.2.2.2.2.2.1.map (eL 1 (V.int .i64))), AL 2 (v0.2.2.2.2.2.2.1.map eNote), AS v0.2.2.2.2.2.2.2.1, AL 2 (v0.2.2.2.2.2.2.2.2.1.map eNote), AL 1 (v0.2.2.2.2.2.2.2.2.2.1.map (eL 1 (V.int .i64))), AL 3 (v0.2.2.2.2.2.2.2.2.2.2.1.map eSyllable), AL 2 (v0.2.2.2.2.2.2.2.2.2.2.2.1.map eNote), AL 6 (v0.2.2.2.2.2.2.2.2.2.2.2.2.1.map eItem), AL 5 (v0.2.2.2.2.2.2.2.2.2.2.2.2.2.1.map eLesson), AL 3 (v0.2.2.2.2.2.2.2.2.2.2.2.2.2.2.map ePerson)])] false (con_laws_toTuning e1002) c68_ok (by first | rfl | simp) (by simp [res_laws_toTuning]) ?_
 refine qp (.ptr 128 0 7) rfl ?_
 refine qf0 (.undef) [(128, .box [AS v1000.1, .sl 321 0 v1000.2.1.length, .sl 322 0 v1000.2.2.1.length, AI v1000.2.2.2.1, AI v1000.2.2.2.2.1, .sl 325 0 v1000.2.2.2.2.2.length, .sl 640 0 v1001.length, AS v1002.1, .sl 961 0 v1002.2.length, .sl 134 0 0, .sl 135 0 0, .sl 136 0 0, .sl 137 0 0, .sl 138 0 0, .sl 139 0 0]), (961, .row true 2 (v1002.2.map eNote)), (128, .box [AS v1000.1, .sl 321 0 v1000.2.1.length, .sl 322 0 v1000.2.2.1.length, AI v1000.2.2.2.1, AI v1000.2.2.2.2.1, .sl 325 0 v1000.2.2.2.2.2.length, .sl 640 0 v1001.length, AS [], .sl 133 0 0, .sl 134 0 0, .sl 135 0 0, .sl 136 0 0, .sl 137 0 0, .sl 138 0 0, .sl 139 0 0]), (640, .row true 2 (v1001.map eNote)), (128, .box [AS v1000.1, .sl 321 0 v1000.2.1.length, .sl 322 0 v1000.2.2.1.length, AI v1000.2.2.2.1, AI v1000.2.2.2.2.1, .sl 325 0 v1000.2.2.2.2.2.length, .sl 132 0 0, AS [], .sl 133 0 0, .sl 134 0 0, .sl 135 0 0, .sl 136 0 0, .sl 137 0 0, .sl 138 0 0, .sl 139 0 0]), (325, .row true 1 (v1000.2.2.2.2.2.map (eL 1 (V.int .i64)))), (322, .row true 1 (v1000.2.2.1.map (V.int .i64))), (321, .row true 1 (v1000.2.1.map (V.int .i64))), (128, .box [AS [], .sl 129 0 0, .sl 130 0 0, AI 0, AI 0, .sl 131 0 0, .sl 132 0 0, AS [], .sl 133 0 0, .sl 134 0 0, .sl 135 0 0, .sl 136 0 0, .sl 137 0 0, .sl 138 0 0, .sl 139 0 0]), (139, .row true 3 (([] : List Int).map (V.int .i64))), (138, .row true 5 (([] : List Int).map (V.int .i64))), (137, .row true 6 (([] : List Int).map (V.int .i64))), (136, .row true 2 (([] : List Int).map (V.int .i64))), (135, .row true 3 (([] : List Int).map (V.int .i64))), (134, .row true 1 (([] : List Int).map (V.int .i64))), (133, .row true 2 (([] : List Int).map (V.int .i64))), (132, .row true 2 (([] : List Int).map (V.int .i64))), (131, .row true 1 (([] : List Int).map (V.int .i64))), (130, .row true 1 (([] : List Int).map (V.int .i64))), (129, .row true 1 (([] : List Int).map (V.int .i64))), (64, .box [AS [], .sl 65 0 0, .sl 66 0 0, AI 0, AI 0, .sl 67 0 0, .sl 68 0 0, AS [], .sl 69 0 0, .sl 70 0 0, .sl 71 0 0, .sl 72 0 0, .sl 73 0 0, .sl 74 0 0, .sl 75 0 0]), (75, .row true 3 (([] : List Int).map (V.int .i64))), (74, .row true 5 (([] : List Int).map (V.int .i64))), (73, .row true 6 (([] : List Int).map (V.int .i64))), (72, .row true 2 (([] : List Int).map (V.int .i64))), (71, .row true 3 (([] : List Int).map (V.int .i64))), (70, .row true 1 (([] : List Int).map (V.int .i64))), (69, .row true 2 (([] : List Int).map (V.int .i64))), (68, .row true 2 (([] : List Int).map (V.int .i64))), (67, .row true 1 (([] : List Int).map (V.int .i64))), (66, .row true 1 (([] : List Int).map (V.int .i64))), (65, .row true 1 (([] : List Int).map (V.int .i64))), (0, .box [AS v0.1, AL 1 (v0.2.1.map (V.int .i64)), AL 1 (v0.2.2.1.map (V.int .i64)), AI v0.2.2.2.1, AI v0.2.2.2.2.1, AL 1 (v0.2.2.2.2.2.1.map (eL 1 (V.int .i64))), AL 2 (v0.2.2.2.2.2.2.1.map eNote), AS v0.2.2.2.2.2.2.2.1, AL 2 (v0.2.2.2.2.2.2.2.2.1.map eNote), AL 1 (v0.2.2.2.2.2.2.2.2.2.1.map (eL 1 (V.int .i64))), AL 3 (v0.2.2.2.2.2.2.2.2.2.2.1.map eSyllable), AL 2 (v0.2.2.2.2.2.2.2.2.2.2.2.1.map eNote), AL 6 (v0.2.2.2.2.2.2.2.2.2.2.2.2.1.map eItem), AL 5 (v0.2.2.2.2.2.2.2.2.2.2.2.2.2.1.map eLesson), AL 3 (v0.2.2.2.2.2.2.2.2.2.2.2.2.2.2.map ePerson)])] (by simp) ?_
 refine r_nil ?_
 refine ws 1152 1472 ?_
 refine qp (.ptr 0 0 9) rfl (qp (AL 1 (v0.2.2.2.2.2.2.2.2.2.1.map (eL 1 (V.int .i64)))) rfl ?_)
 obtain ⟨v1003, e1003, hF⟩ := bind_get hF
 refine qc (.sl 1280 0 v1003.length) [(1280, .row true 1 (v1003.map (eL 1 (V.int .i64)))), (128, .box [AS v1000.1, .sl 321 0 v1000.2.1.length, .sl 322 0 v1000.2.2.1.length, AI v1000.2.2.2.1, AI v1000.2.2.2.2.1, .sl 325 0 v1000.2.2.2.2.2.length, .sl 640 0 v1001.length, AS v1002.1, .sl 961 0 v1002.2.length, .sl 134 0 0, .sl 135 0 0, .sl 136 0 0, .sl 137 0 0, .sl 138 0 0, .sl 139 0 0]), (961, .row true 2 (v1002.2.map eNote)), (128, .box [AS v1000.1, .sl 321 0 v1000.2.1.length, .sl 322 0 v1000.2.2.1.length, AI v1000.2.2.2.1, AI v1000.2.2.2.2.1, .sl 325 0 v1000.2.2.2.2.2.length, .sl 640 0 v1001.length, AS [], .sl 133 0 0, .sl 134 0 0, .sl 135 0 0, .sl 136 0 0, .sl 137 0 0, .sl 138 0 0, .sl 139 0 0]), (640, .row true 2 (v1001.map eNote)), (128, .box [AS v1000.1, .sl 321 0 v1000.2.1.length, .sl 322 0 v1000.2.2.1.length, AI v1000.2.2.2.1, AI v1000.2.2.2.2.1, .sl 325 0 v1000.2.2.2.2.2.length, .sl 132 0 0, AS [], .sl 133 0 0, .sl 134 0 0, .sl 135 0 0, .sl 136 0 0, .sl 137 0 0, .sl 138 0 0, .sl 139 0 0]), (325, .row true 1 (v1000.2.2.2.2.2.map (eL 1 (V.int .i64)))), (322, .row true 1 (v1000.2.2.1.map (V.int .i64))), (321, .row true 1 (v1000.2.1.map (V.int .i64))), (128, .box [AS [], .sl 129 0 0, .sl 130 0 0, AI 0, AI 0, .sl 131 0 0, .sl 132 0 0, AS [], .sl 133 0 0, .sl 134 0 0, .sl 135 0 0, .sl 136 0 0, .sl 137 0 0, .sl 138 0 0, .sl 139 0 0]), (139, .row true 3 (([] : List Int).map (V.int .i64))), (138, .row true 5 (([] : List Int).map (V.int .i64))), (137, .row true 6 (([] : List Int).map (V.int .i64))), (136, .row true 2 (([] : List Int).map (V.int .i64))), (135, .row true 3 (([] : List Int).map (V.int .i64))), (134, .row true 1 (([] : List Int).map (V.int .i64))), (133, .row true 2 (([] : List Int).map (V.int .i64))), (132, .row true 2 (([] : List Int).map (V.int .i64))), (131, .row true 1 (([] : List Int).map (V.int .i64))), (130, .row true 1 (([] : List Int).map (V.int .i64))), (129, .row true 1 (([] : List Int).map (V.int .i64))), (64, .box [AS [], .sl 65 0 0, .sl 66 0 0, AI 0, AI 0, .sl 67 0 0, .sl 68 0 0, AS [], .sl 69 0 0, .sl 70 0 0, .sl 71 0 0, .sl 72 0 0, .sl 73 0 0, .sl 74 0 0, .sl 75 0 0]), (75, .row true 3 (([] : List Int).map (V.int .i64))), (74, .row true 5 (([] : List Int).map (V.int .i64))), (73, .row true 6 (([] : List Int).map (V.int .i64))), (72, .row true 2 (([] : List Int).map (V.int .i64))), (71, .row true 3 (([] : List Int).map (V.int .i64))), (70, .row true 1 (([] : List Int).map (V.int .i64))), (69, .row true 2 (([] : List Int).map (V.int .i64))), (68, .row true 2 (([] : List Int).map (V.int .i64))), (67, .row true 1 (([] : List Int).map (V.int .i64))), (66, .row true 1 (([] : List Int).map (V.int .i64))), (65, .row true 1 (([] : List Int).map (V.int .i64))), (0, .box [AS v0.1, AL 1 (v0.2.1.map (V.int .i64)), AL 1 (v0.2.2.1.map (V.int .i64)), AI v0.2.2.2.1, AI v0.2.2.2.2.1, AL 1 (v0.2.2.2.2.2.1.map (eL 1 (V.int .i64))), AL 2 (v0.2.2.2.2.2.2.1.map eNote), AS v0.2.2.2.2.2.2.2.1, AL 2 (v0.2.2.2.2.2.2.2.2.1.map eNote), AL 1 (v0.2.2.2.2.2.2.2.2.2.1.map (eL 1 (V.int .i64))), AL 3 (v0.2.2.2.2.2.2.2.2.2.2.1.map eSyllable), AL 2 (v0.2.2.2.2.2.2.2.2.2.2.2.1.map eNote), AL 6 (v0.2.2.2.2.2.2.2.2.2.2.2.2.1.map eItem), AL 5 (v0.2.2.2.2.2.2.2.2.2.2.2.2.2.1.map eLesson), AL 3 (v0.2.2.2.2.2.2.2.2.2.2.2.2.2.2.map ePerson)])] false (con_laws_toInt64SS e1003) c69_ok (by first | rfl | simp) (by simp [res_laws_toInt64SS]) ?_
 refine qp (.ptr 128 0 9) rfl ?_
 refine qf0 (.undef) [(128, .box [AS v1000.1, .sl 321 0 v1000.2.1.length, .sl 322 0 v1000.2.2.1.length, AI v1000.2.2.2.1, AI v1000.2.2.2.2.1, .sl 325 0 v1000.2.2.2.2.2.length, .sl 640 0 v1001.length, AS v1002.1, .sl 961 0 v1002.2.length, .sl 1280 0 v1003.length, .sl 135 0 0, .sl 136 0 0, .sl 137 0 0, .sl 138 0 0, .sl 139 0 0]), (1280, .row true 1 (v1003.map (eL 1 (V.int .i64)))), (128, .box [AS v1000.1, .sl 321 0 v1000.2.1.length, .sl 322 0 v1000.2.2.1.length, AI v1000.2.2.2.1, AI v1000.2.2.2.2.1, .sl 325 0 v1000.2.2.2.2.2.length, .sl 640 0 v1001.length, AS v1002.1, .sl 961 0 v1002.2.length, .sl 134 0 0, .sl 135 0 0, .sl 136 0 0, .sl 137 0 0, .sl 138 0 0, .sl 139 0 0]), (961, .row true 2 (v1002.2.map eNote)), (128, .box [AS v1000.1, .sl 321 0 v1000.2.1.length, .sl 322 0 v1000.2.2.1.length, AI v1000.2.2.2.1, AI v1000.2.2.2.2.1, .sl 325 0 v1000.2.2.2.2.2.length, .sl 640 0 v1001.length, AS [], .sl 133 0 0, .sl 134 0 0, .sl 135 0 0, .sl 136 0 0, .sl 137 0 0, .sl 138 0 0, .sl 139 0 0]), (640, .row true 2 (v1001.map eNote)), (128, .box [AS v1000.1, .sl 321 0 v1000.2.1.length, .sl 322 0 v1000.2.2.1.length, AI v1000.2.2.2.1, AI v1000.2.2.2.2.1, .sl 325 0 v1000.2.2.2.2.2.length, .sl 132 0 0, AS [], .sl 133 0 0, .sl 134 0 0, .sl 135 0 0, .sl 136 0 0, .sl 137 0 0, .sl 138 0 0, .sl 139 0 0]), (325, .row true 1 (v1000.2.2.2.2.2.map (eL 1 (V.int .i64)))), (322, .row true 1 (v1000.2.2.1.map (V.int .i64))), (321, .row true 1 (v1000.2.1.map (V.int .i64))), (128, .box [AS [], .sl 129 0 0, .sl 130 0 0, AI 0, AI 0, .sl 131 0 0, .sl 132 0 0, AS [], .sl 133 0 0, .sl 134 0 0, .sl 135 0 0, .sl 136 0 0, .sl 137 0 0, .sl 138 0 0, .sl 139 0 0]), (139, .row true 3 (([] : List Int).map (V.int .i64))), (138, .row true 5 (([] : List Int).map (V.int .i64))), (137, .row true 6 (([] : List Int).map (V.int .i64))), (136, .row true 2 (([] : List Int).map (V.int .i64))), (135, .row true 3 (([] : List Int).map (V.int .i64))), (134, .row true 1 (([] : List Int).map (V.int .i64))), (133, .row true 2 (([] : List Int).map (V.int .i64))), (132, .row true 2 (([] : List Int).map (V.int .i64))), (131, .row true 1 (([] : List Int).map (V.int .i64))), (130, .row true 1 (([] : List Int).map (V.int .i64))), (129, .row true 1 (([] : List Int).map (V.int .i64))), (64, .box [AS [], .sl 65 0 0, .sl 66 0 0, AI 0, AI 0, .sl 67 0 0, .sl 68 0 0, AS [], .sl 69 0 0, .sl 70 0 0, .sl 71 0 0, .sl 72 0 0, .sl 73 0 0, .sl 74 0 0, .sl 75 0 0]), (75, .row true 3 (([] : List Int).map (V.int .i64))), (74, .row true 5 (([] : List Int).map (V.int .i64))), (73, .row true 6 (([] : List Int).map (V.int .i64))), (72, .row true 2 (([] : List Int).map (V.int .i64))), (71, .row true 3 (([] : List Int).map (V.int .i64))), (70, .row true 1 (([] : List Int).map (V.int .i64))), (69, .row true 2 (([] : List Int).map (V.int .i64))), (68, .row true 2 (([] : List Int).map (V.int .i64))), (67, .row true 1 (([] : List Int).map (V.int .i64))), (66, .row true 1 (([] : List Int).map (V.int .i64))), (65, .row true 1 (([] : List Int).map (V.int .i64))), (0, .box [AS v0.1, AL 1 (v0.2.1.map (V.int .i64)), AL 1 (v0.2.2.1.map (V.int .i64)), AI v0.2.2.2.1, AI v0.2.2.2.2.1, AL 1 (v0.2.2.2.2.2.1.map (eL 1 (V.int .i64))), AL 2 (v0.2.2.2.2.2.2.1.map eNote), AS v0.2.2.2.2.2.2.2.1, AL 2 (v0.2.2.2.2.2.2.2.2.1.map eNote), AL 1 (v0.2.2.2.2.2.2.2.2.2.1.map (eL 1 (V.int .i64))), AL 3 (v0.2.2.2.2.2.2.2.2.2.2.1.map eSyllable), AL 2 (v0.2.2.2.2.2.2.2.2.2.2.2.1.map eNote), AL 6 (v0.2.2.2.2.2.2.2.2.2.2.2.2.1.map eItem), AL 5 (v0.2.2.2.2.2.2.2.2.2.2.2.2.2.1.map eLesson), AL 3 (v0.2.2.2.2.2.2.2.2.2.2.2.2.2.2.map ePerson)])] (by simp) ?_
 refine r_nil ?_
 refine ws 1472 1792 ?_
 refine qp (.ptr 0 0 10) rfl (qp (AL 3 (v0.2.2.2.2.2.2.2.2.2.2.1.map eSyllable)) rfl ?_)
 obtain ⟨v1004, e1004, hF⟩ := bind_get hF
 refine qc (.sl 1600 0 v1004.length) [(1600, .row true 3 (v1004.map eSyllable)), (128, .box [AS v1000.1, .sl 321 0 v1000.2.1.length, .sl 322 0 v1000.2.2.1.length, AI v1000.2.2.2.1, AI v1000.2.2.2.2.1, .sl 325 0 v1000.2.2.2.2.2.length, .sl 640 0 v1001.length, AS v1002.1, .sl 961 0 v1002.2.length, .sl 1280 0 v1003.length, .sl 135 0 0, .sl 136 0 0, .sl 137 0 0, .sl 138 0 0, .sl 139 0 0]), (1280, .row true 1 (v1003.map (eL 1 (V.int .i64)))), (128, .box [AS v1000.1, .sl 321 0 v1000.2.1.length, .sl 322 0 v1000.2.2.1.length, AI v1000.2.2.2.1, AI v1000.2.2.2.2.1, .sl 325 0 v1000.2.2.2.2.2.length, .sl 640 0 v1001.length, AS v1002.1, .sl 961 0 v1002.2.length, .sl 134 0 0, .sl 135 0 0, .sl 136 0 0, .sl 137 0 0, .sl 138 0 0, .sl 139 0 0]), (961, .row true 2 (v1002.2.map eNote)), (128, .box [AS v1000.1, .sl 321 0 v1000.2.1.length, .sl 322 0 v1000.2.2.1.length, AI v1000.2.2.2.1, AI v1000.2.2.2.2.1, .sl 325 0 v1000.2.2.2.2.2.length, .sl 640 0 v1001.length, AS [], .sl 133 0 0, .sl 134 0 0, .sl 135 0 0, .sl 136 0 0, .sl 137 0 0, .sl 138 0 0, .sl 139 0 0]), (640, .row true 2 (v1001.map eNote)), (128, .box [AS v1000.1, .sl 321 0 v1000.2.1.length, .sl 322 0 v1000.2.2.1.length, AI v1000.2.2.2.1, AI v1000.2.2.2.2.1, .sl 325 0 v1000.2.2.2.2.2.length, .sl 132 0 0, AS [], .sl 133 0 0, .sl 134 0 0, .sl 135 0 0, .sl 136 0 0, .sl 137 0 0, .sl 138 0 0, .sl 139 0 0]), (325, .row true 1 (v1000.2.2.2.2.2.map (eL 1 (V.int .i64)))), (322, .row true 1 (v1000.2.2.1.map (V.int .i64))), (321, .row true 1 (v1000.2.1.map (V.int .i64))), (128, .box [AS [], .sl 129 0 0, .sl 130 0 0, AI 0, AI 0, .sl 131 0 0, .sl 132 0 0, AS [], .sl 133 0 0, .sl 134 0 0, .sl 135 0 0, .sl 136 0 0, .sl 137 0 0, .sl 138 0 0, .sl 139 0 0]), (139, .row true 3 (([] : List Int).map (V.int .i64))), (138, .row true 5 (([] : List Int).map (V.int .i64))), (137, .row true 6 (([] : List Int).map (V.int .i64))), (136, .row true 2 (([] : List Int).map (V.int .i64))), (135, .row true 3 (([] : List Int).map (V.int .i64))), (134, .row true 1 (([] : List Int).map (V.int .i64))), (133, .row true 2 (([] : List Int).map (V.int .i64))), (132, .row true 2 (([] : List Int).map (V.int .i64))), (131, .row true 1 (([] : List Int).map (V.int .i64))), (130, .row true 1 (([] : List Int).map (V.int .i64))), (129, .row true 1 (([] : List Int).map (V.int .i64))), (64, .box [AS [], .sl 65 0 0, .sl 66 0 0, AI 0, AI 0, .sl 67 0 0, .sl 68 0 0, AS [], .sl 69 0 0, .sl 70 0 0, .sl 71 0 0, .sl 72 0 0, .sl 73 0 0, .sl 74 0 0, .sl 75 0 0]), (75, .row true 3 (([] : List Int).map (V.int .i64))), (74, .row true 5 (([] : List Int).map (V.int .i64))), (73, .row true 6 (([] : List Int).map (V.int .i64))), (72, .row true 2 (([] : List Int).map (V.int .i64))), (71, .row true 3 (([] : List Int).map (V.int .i64))), (70, .row true 1 (([] : List Int).map (V.int .i64))), (69, .row true 2 (([] : List Int).map (V.int .i64))), (68, .row true 2 (([] : List Int).map (V.int .i64))), (67, .row true 1 (([] : List Int).map (V.int .i64))), (66, .row true 1 (([] : List Int).map (V.int .i64))), (65, .row true 1 (([] : List Int).map (V.int .i64))), (0, .box [AS v0.1, AL 1 (v0.2.1.map (V.int .i64)), AL 1 (v0.2.2.1.map (V.int .i64)), AI v0.2.2.2.1, AI v0.2.2.2.2.1, AL 1 (v0.2.2.2.2.2.1.map (eL 1 (V.int .i64))), AL 2 (v0.2.2.2.2.2.2.1.map eNote), AS v0.2.2.2.2.2.2.2.1, AL 2 (v0.2.2.2.2.2.2.2.2.1.map eNote), AL 1 (v0.2.2.2.2.2.2.2.2.2.1.map (eL 1 (V.int .i64))), AL 3 (v0.2.2.2.2.2.2.2.2.2.2.1.map eSyllable), AL 2 (v0.2.2.2.2.2.2.2.2.2.2.2.1.map eNote), AL 6 (v0.2.2.2.2.2.2.2.2.2.2.2.2.1.map eItem), AL 5 (v0.2.2.2.2.2.2.2.2.2.2.2.2.2.1.map eLesson), AL 3 (v0.2.2.2.2.2.2.2.2.2.2.2.2.2.2.map ePerson)])] false (con_laws_toSyllableS e1004) c70_ok (by first | rfl | simp) (by simp [res_laws_toSyllableS]) ?_
 refine qp (.ptr 128 0 10) rfl ?_
 refine qf0 (.undef) [(128, .box [AS v1000.1, .sl 321 0 v1000.2.1.length, .sl 322 0 v1000.2.2.1.length, AI v1000.2.2.2.1, AI v1000.2.2.2.2.1, .sl 325 0 v1000.2.2.2.2.2.length, .sl 640 0 v1001.length, AS v1002.1, .sl 961 0 v1002.2.length, .sl 1280 0 v1003.length, .sl 1600 0 v1004.length, .sl 136 0 0, .sl 137 0 0, .sl 138 0 0, .sl 139 0 0]), (1600, .row true 3 (v1004.map eSyllable)), (128, .box [AS v1000.1, .sl 321 0 v1000.2.1.length, .sl 322 0 v1000.2.2.1.length, AI v1000.2.2.2.1, AI v1000.2.2.2.2.1, .sl 325 0 v1000.2.2.2.2.2.length, .sl 640 0 v1001.length, AS v1002.1, .sl 961 0 v1002.2.length, .sl 1280 0 v1003.length, .sl 135 0 0, .sl 136 0 0, .sl 137 0 0, .sl 138 0 0, .sl 139 0 0]), (1280, .row true 1 (v1003.map (eL 1 (V.int .i64)))), (128, .box [AS v1000.1, .sl 321 0 v1000.2.1.length, .sl 322 0 v1000.2.2.1.length, AI v1000.2.2.2.1, AI v1000.2.2.2.2.1, .sl 325 0 v1000.2.2.2.2.2.length, .sl 640 0 v1001.length, AS v1002.1, .sl 961 0 v1002.2.length, .sl 134 0 0, .sl 135 0 0, .sl 136 0 0, .sl 137 0 0, .sl 138 0 0, .sl 139 0 0]), (961, .row true 2 (v1002.2.map eNote)), (128, .box [AS v1000.1, .sl 321 0 v1000.2.1.length, .sl 322 0 v1000.2.2.1.length, AI v1000.2.2.2.1, AI v1000.2.2.2.2.1, .sl 325 0 v1000.2.2.2.2.2.length, .sl 640 0 v1001.length, AS [], .sl 133 0 0, .sl 134 0 0, .sl 135 0 0, .sl 136 0 0, .sl 137 0 0, .sl 138 0 0, .sl 139 0 0]), (640, .row true 2 (v1001.map eNote)), (128, .box [AS v1000.1, .sl 321 0 v1000.2.1.length, .sl 322 0 v1000.2.2.1.length, AI v1000.2.2.2.1, AI v1000.2.2.2.2.1, .sl 325 0 v1000.2.2.2.2.2.length, .sl 132 0 0, AS [], .sl 133 0 0, .sl 134 0 0, .sl 135 0 0, .sl 136 0 0, .sl 137 0 0, .sl 138 0 0, .sl 139 0 0]), (325, .row true 1 (v1000.2.2.2.2.2.map (eL 1 (V.int .i64)))), (322, .row true 1 (v1000.2.2.1.map (V.int .i64))), (321, .row true 1 (v1000.2.1.map (V.int .i64))), (128, .box [AS [], .sl 129 0 0, .sl 130 0 0, AI 0, AI 0, .sl 131 0 0, .sl 132 0 0, AS [], .sl 133 0 0, .sl 134 0 0, .sl 135 0 0, .sl 136 0 0, .sl 137 0 0, .sl 138 0 0, .sl 139 0 0]), (139, .row true 3 (([] : List Int).map (V.int .i64))), (138, .row true 5 (([] : List Int).map (V.int .i64))), (137, .row true 6 (([] : List Int).map (V.int .i64))), (136, .row true 2 (([] : List Int).map (V.int .i64))), (135, .row true 3 (([] : List Int).map (V.int .i64))), (134, .row true 1 (([] : List Int).map (V.int .i64))), (133, .row true 2 (([] : List Int).map (V.int .i64))), (132, .row true 2 (([] : List Int).map (V.int .i64))), (131, .row true 1 (([] : List Int).map (V.int .i64))), (130, .row true 1 (([] : List Int).map (V.int .i64))), (129, .row true 1 (([] : List Int).map (V.int .i64))), (64, .box [AS [], .sl 65 0 0, .sl 66 0 0, AI 0, AI 0, .sl 67 0 0, .sl 68 0 0, AS [], .sl 69 0 0, .sl 70 0 0, .sl 71 0 0, .sl 72 0 0, .sl 73 0 0, .sl 74 0 0, .sl 75 0 0]), (75, .row true 3 (([] : List Int).map (V.int .i64))), (74, .row true 5 (([] : List Int).map (V.int .i64))), (73, .row true 6 (([] : List Int).map (V.int .i64))), (72, .row true 2 (([] : List Int).map (V.int .i64))), (71, .row true 3 (([] : List Int).map (V.int .i64))), (70, .row true 1 (([] : List Int).map (V.int .i64))), (69, .row true 2 (([] : List Int).map (V.int .i64))), (68, .row true 2 (([] : List Int).map (V.int .i64))), (67, .row true 1 (([] : List Int).map (V.int .i64))), (66, .row true 1 (([] : List Int).map (V.int .i64))), (65, .row true 1 (([] : List Int).map (V.int .i64))), (0, .box [AS v0.1, AL 1 (v0.2.1.map (V.int .i64)), AL 1 (v0.2.2.1.map (V.int .i64)), AI v0.2.2.2.1, AI v0.2.2.2.2.1, AL 1 (v0.2.2.2.2.2.1.map (eL 1 (V.int .i64))), AL 2 (v0.2.2.2.2.2.2.1.map eNote), AS v0.2.2.2.2.2.2.2.1, AL 2 (v0.2.2.2.2.2.2.2.2.1.map eNote), AL 1 (v0.2.2.2.2.2.2.2.2.2.1.map (eL 1 (V.int .i64))), AL 3 (v0.2.2.2.2.2.2.2.2.2.2.1.map eSyllable), AL 2 (v0.2.2.2.2.2.2.2.2.2.2.2.1.map eNote), AL 6 (v0.2.2.2.2.2.2.2.2.2.2.2.2.1.map eItem), AL 5 (v0.2.2.2.2.2.2.2.2.2.2.2.2.2.1.map eLesson), AL 3 (v0.2.2.2.2.2.2.2.2.2.2.2.2.2.2.map ePerson)])] (by simp) ?_
 refine r_nil ?_
 refine ws 1792 2112 ?_
 refine qp (.ptr 0 0 11) rfl (qp (AL 2 (v0.2.2.2.2.2.2.2.2.2.2.2.1.map eNote)) rfl ?_)
 obtain ⟨v1005, e1005, hF⟩ := bind_get hF
 refine qc (.sl 1920 0 v1005.length) [(1920, .row true 2 (v1005.map eNote)), (128, .box [AS v1000.1, .sl 321 0 v1000.2.1.length, .sl 322 0 v1000.2.2.1.length, AI v1000.2.2.2.1, AI v1000.2.2.2.2.1, .sl 325 0 v1000.2.2.2.2.2.length, .sl 640 0 v1001.length, AS v1002.1, .sl 961 0 v1002.2.length, .sl 1280 0 v1003.length, .sl 1600 0 v1004.length, .sl 136 0 0, .sl 137 0 0, .sl 138 0 0, .sl 139 0 0]), (1600, .row true 3 (v1004.map eSyllable)), (128, .box [AS v1000.1, .sl 321 0 v1000.2.1.length, .sl 322 0 v1000.2.2.1.length, AI v1000.2.2.2.1, AI v1000.2.2.2.2.1, .sl 325 0 v1000.2.2.2.2.2.length, .sl 640 0 v1001.length, AS v1002.1, .sl 961 0 v1002.2.length, .sl 1280 0 v1003.length, .sl 135 0 0, .sl 136 0 0, .sl 137 0 0, .sl 138 0 0, .sl 139 0 0]), (1280, .row true 1 (v1003.map (eL 1 (V.int .i64)))), (128, .box [AS v1000.1, .sl 321 0 v1000.2.1.length, .sl 322 0 v1000.2.2.1.length, AI v1000.2.2.2.1, AI v1000.2.2.2.2.1, .sl 325 0 v1000.2.2.2.2.2.length, .sl 640 0 v1001.length, AS v1002.1, .sl 961 0 v1002.2.length, .sl 134 0 0, .sl 135 0 0, .sl 136 0 0, .sl 137 0 0, .sl 138 0 0, .sl 139 0 0]), (961, .row true 2 (v1002.2.map eNote)), (128, .box [AS v1000.1, .sl 321 0 v1000.2.1.length, .sl 322 0 v1000.2.2.1.length, AI v1000.2.2.2.1, AI v1000.2.2.2.2.1, .sl 325 0 v1000.2.2.2.2.2.length, .sl 640 0 v1001.length, AS [], .sl 133 0 0, .sl 134 0 0, .sl 135 0 0, .sl 136 0 0, .sl 137 0 0, .sl 138 0 0, .sl 139 0 0]), (640, .row true 2 (v1001.map eNote)), (128, .box [AS v1000.1, .sl 321 0 v1000.2.1.length, .sl 322 0 v1000.2.2.1.length, AI v1000.2.2.2.1, AI v1000.2.2.2.2.1, .sl 325 0 v1000.2.2.2.2.2.length, .sl 132 0 0, AS [], .sl 133 0 0, .sl 134 0 0, .sl 135 0 0, .sl 136 0 0, .sl 137 0 0, .sl 138 0 0, .sl 139 0 0]), (325, .row true 1 (v1000.2.2.2.2.2.map (eL 1 (V.int .i64)))), (322, .row true 1 (v1000.2.2.1.map (V.int .i64))), (321, .row true 1 (v1000.2.1.map (V.int .i64))), (128, .box [AS [], .sl 129 0 0, .sl 130 0 0, AI 0, AI 0, .sl 131 0 0, .sl 132 0 0, AS [], .sl 133 0 0, .sl 134 0 0, .sl 135 0 0, .sl 136 0 0, .sl 137 0 0, .sl 138 0 0, .sl 139 0 0]), (139, .row true 3 (([] : List Int).map (V.int .i64))), (138, .row true 5 (([] : List Int).map (V.int .i64))), (137, .row true 6 (([] : List Int).map (V.int .i64))), (136, .row true 2 (([] : List Int).map (V.int .i64))), (135, .row true 3 (([] : List Int).map (V.int .i64))), (134, .row true 1 (([] : List Int).map (V.int .i64))), (133, .row true 2 (([] : List Int).map (V.int .i64))), (132, .row true 2 (([] : List Int).map (V.int .i64))), (131, .row true 1 (([] : List Int).map (V.int .i64))), (130, .row true 1 (([] : List Int).map (V.int .i64))), (129, .row true 1 (([] : List Int).map (V.int .i64))), (64, .box [AS [], .sl 65 0 0, .sl 66 0 0, AI 0, AI 0, .sl 67 0 0, .sl 68 0 0, AS [], .sl 69 0 0, .sl 70 0 0, .sl 71 0 0, .sl 72 0 0, .sl 73 0 0, .sl 74 0 0, .sl 75 0 0]), (75, .row true 3 (([] : List Int).map (V.int .i64))), (74, .row true 5 (([] : List Int).map (V.int .i64))), (73, .row true 6 (([] : List Int).map (V.int .i64))), (72, .row true 2 (([] : List Int).map (V.int .i64))), (71, .row true 3 (([] : List Int).map (V.int .i64))), (70, .row true 1 (([] : List Int).map (V.int .i64))), (69, .row true 2 (([] : List Int).map (V.int .i64))), (68, .row true 2 (([] : List Int).map (V.int .i64))), (67, .row true 1 (([] : List Int).map (V.int .i64))), (66, .row true 1 (([] : List Int).map (V.int .i64))), (65, .row true 1 (([] : List Int).map (V.int .i64))), (0, .box [AS v0.1, AL 1 (v0.2.1.map (V.int .i64)), AL 1 (v0.2.2.1.map (V.int .i64)), AI v0.2.2.2.1, AI v0.2.2.2.2.1, AL 1 (v0.2.2.2.2.2.1.map (eL 1 (V.int .i64))), AL 2 (v0.2.2.2.2.2.2.1.map eNote), AS v0.2.2.2.2.2.2.2.1, AL 2 (v0.2.2.2.2.2.2.2.2.1.map eNote), AL 1 (v0.2.2.2.2.2.2.2.2.2.1.map (eL 1 (V.int .i64))), AL 3 (v0.2.2.2.2.2.2.2.2.2.2.1.map eSyllable), AL 2 (v0.2.2.2.2.2.2.2.2.2.2.2.1.map eNote), AL 6 (v0.2.2.2.2.2.2.2.2.2.2.2.2.1.map eItem), AL 5 (v0.2.2.2.2.2.2.2.2.2.2.2.2.2.1.map eLesson), AL 3 (v0.2.2.2.2.2.2.2.2.2.2.2.2.2.2.map ePerson)])] false (con_laws_toTempoMarkS e1005) c71_ok (by first | rfl | simp) (by simp [res_laws_toTempoMarkS]) ?_
 refine qp (.ptr 128 0 11) rfl ?_
 refine qf0 (.undef) [(128, .box [AS v1000.1, .sl 321 0 v1000.2.1.length, .sl 322 0 v1000.2.2.1.length, AI v1000.2.2.2.1, AI v1000.2.2.2.2.1, .sl 325 0 v1000.2.2.2.2.2.length, .sl 640 0 v1001.length, AS v1002.1, .sl 961 0 v1002.2.length, .sl 1280 0 v1003.length, .sl 1600 0 v1004.length, .sl 1920 0 v1005.length, .sl 137 0 0, .sl 138 0 0, .sl 139 0 0]), (1920, .row true 2 (v1005.map eNote)), (128, .box [AS v1000.1, .sl 321 0 v1000.2.1.length, .sl 322 0 v1000.2.2.1.length, AI v1000.2.2.2.1, AI v1000.2.2.2.2.1, .sl 325 0 v1000.2.2.2.2.2.length, .sl 640 0 v1001.length, AS v1002.1, .sl 961 0 v1002.2.length, .sl 1280 0 v1003.length, .sl 1600 0 v1004.length, .sl 136 0 0, .sl 137 0 0, .sl 138 0 0, .sl 139 0 0]), (1600, .row true 3 (v1004.map eSyllable)), (128, .box [AS v1000.1, .sl 321 0 v1000.2.1.length, .sl 322 0 v1000.2.2.1.length, AI v1000.2.2.2.1, AI v1000.2.2.2.2.1, .sl 325 0 v1000.2.2.2.2.2.length, .sl 640 0 v1001.length, AS v1002.1, .sl 961 0 v1002.2.length, .sl 1280 0 v1003.length, .sl 135 0 0, .sl 136 0 0, .sl 137 0 0, .sl 138 0 0, .sl 139 0 0]), (1280, .row true 1 (v1003.map (eL 1 (V.int .i64)))), (128, .box [AS v1000.1, .sl 321 0 v1000.2.1.length, .sl 322 0 v1000.2.2.1.length, AI v1000.2.2.2.1, AI v1000.2.2.2.2.1, .sl 325 0 v1000.2.2.2.2.2.length, .sl 640 0 v1001.length, AS v1002.1, .sl 961 0 v1002.2.length, .sl 134 0 0, .sl 135 0 0, .sl 136 0 0, .sl 137 0 0, .sl 138 0 0, .sl 139 0 0]), (961, .row true 2 (v1002.2.map eNote)), (128, .box [AS v1000.1, .sl 321 0 v1000.2.1.length, .sl 322 0 v1000.2.2.1.length, AI v1000.2.2.2.1, AI v1000.2.2.2.2.1, .sl 325 0 v1000.2.2.2.2.2.length, .sl 640 0 v1001.length, AS [], .sl 133 0 0, .sl 134 0 0, .sl 135 0 0, .sl 136 0 0, .sl 137 0 0, .sl 138 0 0, .sl 139 0 0]), (640, .row true 2 (v1001.map eNote)), (128, .box [AS v1000.1, .sl 321 0 v1000.2.1.length, .sl 322 0 v1000.2.2.1.length, AI v1000.2.2.2.1, AI v1000.2.2.2.2.1, .sl 325 0 v1000.2.2.2.2.2.length, .sl 132 0 0, AS [], .sl 133 0 0, .sl 134 0 0, .sl 135 0 0, .sl 136 0 0, .sl 137 0 0, .sl 138 0 0, .sl 139 0 0]), (325, .row true 1 (v1000.2.2.2.2.2.map (eL 1 (V.int .i64)))), (322, .row true 1 (v1000.2.2.1.map (V.int .i64))), (321, .row true 1 (v1000.2.1.map (V.int .i64))), (128, .box [AS [], .sl 129 0 0, .sl 130 0 0, AI 0, AI 0, .sl 131 0 0, .sl 132 0 0, AS [], .sl 133 0 0, .sl 134 0 0, .sl 135 0 0, .sl 136 0 0, .sl 137 0 0, .sl 138 0 0, .sl 139 0 0]), (139, .row true 3 (([] : List Int).map (V.int .i64))), (138, .row true 5 (([] : List Int).map (V.int .i64))), (137, .row true 6 (([] : List Int).map (V.int .i64))), (136, .row true 2 (([] : List Int).map (V.int .i64))), (135, .row true 3 (([] : List Int).map (V.int .i64))), (134, .row true 1 (([] : List Int).map (V.int .i64))), (133, .row true 2 (([] : List Int).map (V.int .i64))), (132, .row true 2 (([] : List Int).map (V.int .i64))), (131, .row true 1 (([] : List Int).map (V.int .i64))), (130, .row true 1 (([] : List Int).map (V.int .i64))), (129, .row true 1 (([] : List Int).map (V.int .i64))), (64, .box [AS [], .sl 65 0 0, .sl 66 0 0, AI 0, AI 0, .sl 67 0 0, .sl 68 0 0, AS [], .sl 69 0 0, .sl 70 0 0, .sl 71 0 0, .sl 72 0 0, .sl 73 0 0, .sl 74 0 0, .sl 75 0 0]), (75, .row true 3 (([] : List Int).map (V.int .i64))), (74, .row true 5 (([] : List Int).map (V.int .i64))), (73, .row true 6 (([] : List Int).map (V.int .i64))), (72, .row true 2 (([] : List Int).map (V.int .i64))), (71, .row true 3 (([] : List Int).map (V.int .i64))), (70, .row true 1 (([] : List Int).map (V.int .i64))), (69, .row true 2 (([] : List Int).map (V.int .i64))), (68, .row true 2 (([] : List Int).map (V.int .i64))), (67, .row true 1 (([] : List Int).map (V.int .i64))), (66, .row true 1 (([] : List Int).map (V.int .i64))), (65, .row true 1 (([] : List Int).map (V.int .i64))), (0, .box [AS v0.1, AL 1 (v0.2.1.map (V.int .i64)), AL 1 (v0.2.2.1.map (V.int .i64)), AI v0.2.2.2.1, AI v0.2.2.2.2.1, AL 1 (v0.2.2.2.2.2.1.map (eL 1 (V.int .i64))), AL 2 (v0.2.2.2.2.2.2.1.map eNote), AS v0.2.2.2.2.2.2.2.1, AL 2 (v0.2.2.2.2.2.2.2.2.1.map eNote), AL 1 (v0.2.2.2.2.2.2.2.2.2.1.map (eL 1 (V.int .i64))), AL 3 (v0.2.2.2.2.2.2.2.2.2.2.1.map eSyllable), AL 2 (v0.2.2.2.2.2.2.2.2.2.2.2.1.map eNote), AL 6 (v0.2.2.2.2.2.2.2.2.2.2.2.2.1.map eItem), AL 5 (v0.2.2.2.2.2.2.2.2.2.2.2.2.2.1.map eLesson), AL 3 (v0.2.2.2.2.2.2.2.2.2.2.2.2.2.2.map ePerson)])] (by simp) ?_
 refine r_nil ?_
 refine ws 2112 2432 ?_
 refine qp (.ptr 0 0 12) rfl (qp (AL 6 (v0.2.2.2.2.2.2.2.2.2.2.2.2.1.map eItem)) rfl ?_)
 obtain ⟨v1006, e1006, hF⟩ := bind_get hF
 refine qc (.sl 2240 0 v1006.length) [(2240, .row true 6 (v1006.map eItem)), (128, .box [AS v1000.1, .sl 321 0 v1000.2.1.length, .sl 322 0 v1000.2.2.1.length, AI v1000.2.2.2.1, AI v1000.2.2.2.2.1, .sl 325 0 v1000.2.2.2.2.2.length, .sl 640 0 v1001.length, AS v1002.1, .sl 961 0 v1002.2.length, .sl 1280 0 v1003.length, .sl 1600 0 v1004.length, .sl 1920 0 v1005.length, .sl 137 0 0, .sl 138 0 0, .sl 139 0 0]), (1920, .row true 2 (v1005.map eNote)), (128, .box [AS v1000.1, .sl 321 0 v1000.2.1.length, .sl 322 0 v1000.2.2.1.length, AI v1000.2.2.2.1, AI v1000.2.2.2.2.1, .sl 325 0 v1000.2.2.2.2.2.length, .sl 640 0 v1001.length, AS v1002.1, .sl 961 0 v1002.2.length, .sl 1280 0 v1003.length, .sl 1600 0 v1004.length, .sl 136 0 0, .sl 137 0 0, .sl 138 0 0, .sl 139 0 0]), (1600, .row true 3 (v1004.map eSyllable)), (128, .box [AS v1000.1, .sl 321 0 v1000.2.1.length, .sl 322 0 v1000.2.2.1.length, AI v1000.2.2.2.1, AI v1000.2.2.2.2.1, .sl 325 0 v1000.2.2.2.2.2.length, .sl 640 0 v1001.length, AS v1002.1, .sl 961 0 v1002.2.length, .sl 1280 0 v1003.length, .sl 135 0 0, .sl 136 0 0, .sl 137 0 0, .sl 138 0 0, .sl 139 0 0]), (1280, .row true 1 (v1003.map (eL 1 (V.int .i64)))), (128, .box [AS v1000.1, .sl 321 0 v1000.2.1.length, .sl 322 0 v1000.2.2.1.length, AI v1000.2.2.2.1, AI v1000.2.2.2.2.1, .sl 325 0 v1000.2.2.2.2.2.length, .sl 640 0 v1001.length, AS v1002.1, .sl 961 0 v1002.2.length, .sl 134 0 0, .sl 135 0 0, .sl 136 0 0, .sl 137 0 0, .sl 138 0 0, .sl 139 0 0]), (961, .row true 2 (v1002.2.map eNote)), (128, .box [AS v1000.1, .sl 321 0 v1000.2.1.length, .sl 322 0 v1000.2.2.1.length, AI v1000.2.2.2.1, AI v1000.2.2.2.2.1, .sl 325 0 v1000.2.2.2.2.2.length, .sl 640 0 v1001.length, AS [], .sl 133 0 0, .sl 134 0 0, .sl 135 0 0, .sl 136 0 0, .sl 137 0 0, .sl 138 0 0, .sl 139 0 0]), (640, .row true 2 (v1001.map eNote)), (128, .box [AS v1000.1, .sl 321 0 v1000.2.1.length, .sl 322 0 v1000.2.2.1.length, AI v1000.2.2.2.1, AI v1000.2.2.2.2.1, .sl 325 0 v1000.2.2.2.2.2.length, .sl 132 0 0, AS [], .sl 133 0 0, .sl 134 0 0, .sl 135 0 0, .sl 136 0 0, .sl 137 0 0, .sl 138 0 0, .sl 139 0 0]), (325, .row true 1 (v1000.2.2.2.2.2.map (eL 1 (V.int .i64)))), (322, .row true 1 (v1000.2.2.1.map (V.int .i64))), (321, .row true 1 (v1000.2.1.map (V.int .i64))), (128, .box [AS [], .sl 129 0 0, .sl 130 0 0, AI 0, AI 0, .sl 131 0 0, .sl 132 0 0, AS [], .sl 133 0 0, .sl 134 0 0, .sl 135 0 0, .sl 136 0 0, .sl 137 0 0, .sl 138 0 0, .sl 139 0 0]), (139, .row true 3 (([] : List Int).map (V.int .i64))), (138, .row true 5 (([] : List Int).map (V.int .i64))), (137, .row true 6 (([] : List Int).map (V.int .i64))), (136, .row true 2 (([] : List Int).map (V.int .i64))), (135, .row true 3 (([] : List Int).map (V.int .i64))), (134, .row true 1 (([] : List Int).map (V.int .i64))), (133, .row true 2 (([] : List Int).map (V.int .i64))), (132, .row true 2 (([] : List Int).map (V.int .i64))), (131, .row true 1 (([] : List Int).map (V.int .i64))), (130, .row true 1 (([] : List Int).map (V.int .i64))), (129, .row true 1 (([] : List Int).map (V.int .i64))), (64, .box [AS [], .sl 65 0 0, .sl 66 0 0, AI 0, AI 0, .sl 67 0 0, .sl 68 0 0, AS [], .sl 69 0 0, .sl 70 0 0, .sl 71 0 0, .sl 72 0 0, .sl 73 0 0, .sl 74 0 0, .sl 75 0 0]), (75, .row true 3 (([] : List Int).map (V.int .i64))), (74, .row true 5 (([] : List Int).map (V.int .i64))), (73, .row true 6 (([] : List Int).map (V.int .i64))), (72, .row true 2 (([] : List Int).map (V.int .i64))), (71, .row true 3 (([] : List Int).map (V.int .i64))), (70, .row true 1 (([] : List Int).map (V.int .i64))), (69, .row true 2 (([] : List Int).map (V.int .i64))), (68, .row true 2 (([] : List Int).map (V.int .i64))), (67, .row true 1 (([] : List Int).map (V.int .i64))), (66, .row true 1 (([] : List Int).map (V.int .i64))), (65, .row true 1 (([] : List Int).map (V.int .i64))), (0, .box [AS v0.1, AL 1 (v0.2.1.map (V.int .i64)), AL 1 (v0.2.2.1.map (V.int .i64)), AI v0.2.2.2.1, AI v0.2.2.2.2.1, AL 1 (v0.2.2.2.2.2.1.map (eL 1 (V.int .i64))), AL 2 (v0.2.2.2.2.2.2.1.map eNote), AS v0.2.2.2.2.2.2.2.1, AL 2 (v0.2.2.2.2.2.2.2.2.1.map eNote), AL 1 (v0.2.2.2.2.2.2.2.2.2.1.map (eL 1 (V.int .i64))), AL 3 (v0.2.2.2.2.2.2.2.2.2.2.1.map eSyllable), AL 2 (v0.2.2.2.2.2.2.2.2.2.2.2.1.map eNote), AL 6 (v0.2.2.2.2.2.2.2.2.2.2.2.2.1.map eItem), AL 5 (v0.2.2.2.2.2.2.2.2.2.2.2.2.2.1.map eLesson), AL 3 (v0.2.2.2.2.2.2.2.2.2.2.2.2.2.2.map ePerson)])] false (con_laws_toItemS e1006) c72_ok (by first | rfl | simp) (by simp [res_laws_toItemS]) ?_
 refine qp (.ptr 128 0 12) rfl ?_
 refine qf0 (.undef) [(128, .box [AS v1000.1, .sl 321 0 v1000.2.1.length, .sl 322 0 v1000.2.2.1.length, AI v1000.2.2.2.1, AI v1000.2.2.2.2.1, .sl 325 0 v1000.2.2.2.2.2.length, .sl 640 0 v1001.length, AS v1002.1, .sl 961 0 v1002.2.length, .sl 1280 0 v1003.length, .sl 1600 0 v1004.length, .sl 1920 0 v1005.length, .sl 2240 0 v1006.length, .sl 138 0 0, .sl 139 0 0]), (2240, .row true 6 (v1006.map eItem)), (128, .box [AS v1000.1, .sl 321 0 v1000.2.1.length, .sl 322 0 v1000.2.2.1.length, AI v1000.2.2.2.1, AI v1000.2.2.2.2.1, .sl 325 0 v1000.2.2.2.2.2.length, .sl 640 0 v1001.length, AS v1002.1, .sl 961 0 v1002.2.length, .sl 1280 0 v1003.length, .sl 1600 0 v1004.length, .sl 1920 0 v1005.length, .sl 137 0 0, .sl 138 0 0, .sl 139 0 0]), (1920, .row true 2 (v1005.map eNote)), (128, .box [AS v1000.1, .sl 321 0 v1000.2.1.length, .sl 322 0 v1000.2.2.1.length, AI v1000.2.2.2.1, AI v1000.2.2.2.2.1, .sl 325 0 v1000.2.2.2.2.2.length, .sl 640 0 v1001.length, AS v1002.1, .sl 961 0 v1002.2.length, .sl 1280 0 v1003.length, .sl 1600 0 v1004.length, .sl 136 0 0, .sl 137 0 0, .sl 138 0 0, .sl 139 0 0]), (1600, .row true 3 (v1004.map eSyllable)), (128, .box [AS v1000.1, .sl 321 0 v1000.2.1.length, .sl 322 0 v1000.2.2.1.length, AI v1000.2.2.2.1, AI v1000.2.2.2.2.1, .sl 325 0 v1000.2.2.2.2.2.length, .sl 640 0 v1001.length, AS v1002.1, .sl 961 0 v1002.2.length, .sl 1280 0 v1003.length, .sl 135 0 0, .sl 136 0 0, .sl 137 0 0, .sl 138 0 0, .sl 139 0 0]), (1280, .row true 1 (v1003.map (eL 1 (V.int .i64)))), (128, .box [AS v1000.1, .sl 321 0 v1000.2.1.length, .sl 322 0 v1000.2.2.1.length, AI v1000.2.2.2.1, AI v1000.2.2.2.2.1, .sl 325 0 v1000.2.2.2.2.2.length, .sl 640 0 v1001.length, AS v1002.1, .sl 961 0 v1002.2.length, .sl 134 0 0, .sl 135 0 0, .sl 136 0 0, .sl 137 0 0, .sl 138 0 0, .sl 139 0 0]), (961, .row true 2 (v1002.2.map eNote)), (128, .box [AS v1000.1, .sl 321 0 v1000.2.1.length, .sl 322 0 v1000.2.2.1.length, AI v1000.2.2.2.1, AI v1000.2.2.2.2.1, .sl 325 0 v1000.2.2.2.2.2.length, .sl 640 0 v1001.length, AS [], .sl 133 0 0, .sl 134 0 0, .sl 135 0 0, .sl 136 0 0, .sl 137 0 0, .sl 138 0 0, .sl 139 0 0]), (640, .row true 2 (v1001.map eNote)), (128, .box [AS v1000.1, .sl 321 0 v1000.2.1.length, .sl 322 0 v1000.2.2.1.length, AI v1000.2.2.2.1, AI v1000.2.2.2.2.1, .sl 325 0 v1000.2.2.2.2.2.length, .sl 132 0 0, AS [], .sl 133 0 0, .sl 134 0 0, .sl 135 0 0, .sl 136 0 0, .sl 137 0 0, .sl 138 0 0, .sl 139 0 0]), (325, .row true 1 (v1000.2.2.2.2.2.map (eL 1 (V.int .i64)))), (322, .row true 1 (v1000.2.2.1.map (V.int .i64))), (321, .row true 1 (v1000.2.1.map (V.int .i64))), (128, .box [AS [], .sl 129 0 0, .sl 130 0 0, AI 0, AI 0, .sl 131 0 0, .sl 132 0 0, AS [], .sl 133 0 0, .sl 134 0 0, .sl 135 0 0, .sl 136 0 0, .sl 137 0 0, .sl 138 0 0, .sl 139 0 0]), (139, .row true 3 (([] : List Int).map (V.int .i64))), (138, .row true 5 (([] : List Int).map (V.int .i64))), (137, .row true 6 (([] : List Int).map (V.int .i64))), (136, .row true 2 (([] : List Int).map (V.int .i64))), (135, .row true 3 (([] : List Int).map (V.int .i64))), (134, .row true 1 (([] : List Int).map (V.int .i64))), (133, .row true 2 (([] : List Int).map (V.int .i64))), (132, .row true 2 (([] : List Int).map (V.int .i64))), (131, .row true 1 (([] : List Int).map (V.int .i64))), (130, .row true 1 (([] : List Int).map (V.int .i64))), (129, .row true 1 (([] : List Int).map (V.int .i64))), (64, .box [AS [], .sl 65 0 0, .sl 66 0 0, AI 0, AI 0, .sl 67 0 0, .sl 68 0 0, AS [], .sl 69 0 0, .sl 70 0 0, .sl 71 0 0, .sl 72 0 0, .sl 73 0 0, .sl 74 0 0, .sl 75 0 0]), (75, .row true 3 (([] : List Int).map (V.int .i64))), (74, .row true 5 (([] : List Int).map (V.int .i64))), (73, .row true 6 (([] : List Int).map (V.int .i64))), (72, .row true 2 (([] : List Int).map (V.int .i64))), (71, .row true 3 (([] : List Int).map (V.int .i64))), (70, .row true 1 (([] : List Int).map (V.int .i64))), (69, .row true 2 (([] : List Int).map (V.int .i64))), (68, .row true 2 (([] : List Int).map (V.int .i64))), (67, .row true 1 (([] : List Int).map (V.int .i64))), (66, .row true 1 (([] : List Int).map (V.int .i64))), (65, .row true 1 (([] : List Int).map (V.int .i64))), (0, .box [AS v0.1, AL 1 (v0.2.1.map (V.int .i64)), AL 1 (v0.2.2.1.map (V.int .i64)), AI v0.2.2.2.1, AI v0.2.2.2.2.1, AL 1 (v0.2.2.2.2.2.1.map (eL 1 (V.int .i64))), AL 2 (v0.2.2.2.2.2.2.1.map eNote), AS v0.2.2.2.2.2.2.2.1, AL 2 (v0.2.2.2.2.2.2.2.2.1.map eNote), AL 1 (v0.2.2.2.2.2.2.2.2.2.1.map (eL 1 (V.int .i64))), AL 3 (v0.2.2.2.2.2.2.2.2.2.2.1.map eSyllable), AL 2 (v0.2.2.2.2.2.2.2.2.2.2.2.1.map eNote), AL 6 (v0.2.2.2.2.2.2.2.2.2.2.2.2.1.map eItem), AL 5 (v0.2.2.2.2.2.2.2.2.2.2.2.2.2.1.map eLesson), AL 3 (v0.2.2.2.2.2.2.2.2.2.2.2.2.2.2.map ePerson)])] (by simp) ?_
 refine r_nil ?_
 refine ws 2432 2752 ?_
 refine qp (.ptr 0 0 13) rfl (qp (AL 5 (v0.2.2.2.2.2.2.2.2.2.2.2.2.2.1.map eLesson)) rfl ?_)
 obtain ⟨v1007, e1007, hF⟩ := bind_get hF
 refine qc (.sl 2560 0 v1007.length) [(2560, .row true 5 (v1007.map eLesson)), (128, .box [AS v1000.1, .sl 321 0 v1000.2.1.length, .sl 322 0 v1000.2.2.1.length, AI v1000.2.2.2.1, AI v1000.2.2.2.2.1, .sl 325 0 v1000.2.2.2.2.2.length, .sl 640 0 v1001.length, AS v1002.1, .sl 961 0 v1002.2.length, .sl 1280 0 v1003.length, .sl 1600 0 v1004.length, .sl 1920 0 v1005.length, .sl 2240 0 v1006.length, .sl 138 0 0, .sl 139 0 0]), (2240, .row true 6 (v1006.map eItem)), (128, .box [AS v1000.1, .sl 321 0 v1000.2.1.length, .sl 322 0 v1000.2.2.1.length, AI v1000.2.2.2.1, AI v1000.2.2.2.2.1, .sl 325 0 v1000.2.2.2.2.2.length, .sl 640 0 v1001.length, AS v1002.1, .sl 961 0 v1002.2.length, .sl 1280 0 v1003.length, .sl 1600 0 v1004.length, .sl 1920 0 v1005.length, .sl 137 0 0, .sl 138 0 0, .sl 139 0 0]), (1920, .row true 2 (v1005.map eNote)), (128, .box [AS v1000.1, .sl 321 0 v1000.2.1.length, .sl 322 0 v1000.2.2.1.length, AI v1000.2.2.2.1, AI v1000.2.2.2.2.1, .sl 325 0 v1000.2.2.2.2.2.length, .sl 640 0 v1001.length, AS v1002.1, .sl 961 0 v1002.2.length, .sl 1280 0 v1003.length, .sl 1600 0 v1004.length, .sl 136 0 0, .sl 137 0 0, .sl 138 0 0, .sl 139 0 0]), (1600, .row true 3 (v1004.map eSyllable)), (128, .box [AS v1000.1, .sl 321 0 v1000.2.1.length, .sl 322 0 v1000.2.2.1.length, AI v1000.2.2.2.1, AI v1000.2.2.2.2.1, .sl 325 0 v1000.2.2.2.2.2.length, .sl 640 0 v1001.length, AS v1002.1, .sl 961 0 v1002.2.length, .sl 1280 0 v1003.length, .sl 135 0 0, .sl 136 0 0, .sl 137 0 0, .sl 138 0 0, .sl 139 0 0]), (1280, .row true 1 (v1003.map (eL 1 (V.int .i64)))), (128, .box [AS v1000.1, .sl 321 0 v1000.2.1.length, .sl 322 0 v1000.2.2.1.length, AI v1000.2.2.2.1, AI v1000.2.2.2.2.1, .sl 325 0 v1000.2.2.2.2.2.length, .sl 640 0 v1001.length, AS v1002.1, .sl 961 0 v1002.2.length, .sl 134 0 0, .sl 135 0 0, .sl 136 0 0, .sl 137 0 0, .sl 138 0 0, .sl 139 0 0]), (961, .row true 2 (v1002.2.map eNote)), (128, .box [AS v1000.1, .sl 321 0 v1000.2.1.length, .sl 322 0 v1000.2.2.1.length, AI v1000.2.2.2.1, AI v1000.2.2.2.2.1, .sl 325 0 v1000.2.2.2.2.2.length, .sl 640 0 v1001.length, AS [], .sl 133 0 0, .sl 134 0 0, .sl 135 0 0, .sl 136 0 0, .sl 137 0 0, .sl 138 0 0, .sl 139 0 0]), (640, .row true 2 (v1001.map eNote)), (128, .box [AS v1000.1, .sl 321 0 v1000.2.1.length, .sl 322 0 v1000.2.2.1.length, AI v1000.2.2.2.1, AI v1000.2.2.2.2.1, .sl 325 0 v1000.2.2.2.2.2.length, .sl 132 0 0, AS [], .sl 133 0 0, .sl 134 0 0, .sl 135 0 0, .sl 136 0 0, .sl 137 0 0, .sl 138 0 0, .sl 139 0 0]), (325, .row true 1 (v1000.2.2.2.2.2.map (eL 1 (V.int .i64)))), (322, .row true 1 (v1000.2.2.1.map (V.int .i64))), (321, .row true 1 (v1000.2.1.map (V.int .i64))), (128, .box [AS [], .sl 129 0 0, .sl 130 0 0, AI 0, AI 0, .sl 131 0 0, .sl 132 0 0, AS [], .sl 133 0 0, .sl 134 0 0, .sl 135 0 0, .sl 136 0 0, .sl 137 0 0, .sl 138 0 0, .sl 139 0 0]), (139, .row true 3 (([] : List Int).map (V.int .i64))), (138, .row true 5 (([] : List Int).map (V.int .i64))), (137, .row true 6 (([] : List Int).map (V.int .i64))), (136, .row true 2 (([] : List Int).map (V.int .i64))), (135, .row true 3 (([] : List Int).map (V.int .i64))), (134, .row true 1 (([] : List Int).map (V.int .i64))), (133, .row true 2 (([] : List Int).map (V.int .i64))), (132, .row true 2 (([] : List Int).map (V.int .i64))), (131, .row true 1 (([] : List Int).map (V.int .i64))), (130, .row true 1 (([] : List Int).map (V.int .i64))), (129, .row true 1 (([] : List Int).map (V.int .i64))), (64, .box [AS [], .sl 65 0 0, .sl 66 0 0, AI 0, AI 0, .sl 67 0 0, .sl 68 0 0, AS [], .sl 69 0 0, .sl 70 0 0, .sl 71 0 0, .sl 72 0 0, .sl 73 0 0, .sl 74 0 0, .sl 75 0 0]), (75, .row true 3 (([] : List Int).map (V.int .i64))), (74, .row true 5 (([] : List Int).map (V.int .i64))), (73, .row true 6 (([] : List Int).map (V.int .i64))), (72, .row true 2 (([] : List Int).map (V.int .i64))), (71, .row true 3 (([] : List Int).map (V.int .i64))), (70, .row true 1 (([] : List Int).map (V.int .i64))), (69, .row true 2 (([] : List Int).map (V.int .i64))), (68, .row true 2 (([] : List Int).map (V.int .i64))), (67, .row true 1 (([] : List Int).map (V.int .i64))), (66, .row true 1 (([] : List Int).map (V.int .i64))), (65, .row true 1 (([] : List Int).map (V.int .i64))), (0, .box [AS v0.1, AL 1 (v0.2.1.map (V.int .i64)), AL 1 (v0.2.2.1.map (V.int .i64)), AI v0.2.2.2.1, AI v0.2.2.2.2.1, AL 1 (v0.2.2.2.2.2.1.map (eL 1 (V.int .i64))), AL 2 (v0.2.2.2.2.2.2.1.map eNote), AS v0.2.2.2.2.2.2.2.1, AL 2 (v0.2.2.2.2.2.2.2.2.1.map eNote), AL 1 (v0.2.2.2.2.2.2.2.2.2.1.map (eL 1 (V.int .i64))), AL 3 (v0.2.2.2.2.2.2.2.2.2.2.1.map eSyllable), AL 2 (v0.2.2.2.2.2.2.2.2.2.2.2.1.map eNote), AL 6 (v0.2.2.2.2.2.2.2.2.2.2.2.2.1.map eItem), AL 5 (v0.2.2.2.2.2.2.2.2.2.2.2.2.2.1.map eLesson), AL 3 (v0.2.2.2.2.2.2.2.2.2.2.2.2.2.2.map ePerson)])] false (con_laws_toLessonS e1007) c21_ok (by first | rfl | simp) (by simp [res_laws_toLessonS]) ?_
 refine qp (.ptr 128 0 13) rfl ?_
 refine qf0 (.undef) [(128, .box [AS v1000.1, .sl 321 0 v1000.2.1.length, .sl 322 0 v1000.2.2.1.length, AI v1000.2.2.2.1, AI v1000.2.2.2.2.1, .sl 325 0 v1000.2.2.2.2.2.length, .sl 640 0 v1001.length, AS v1002.1, .sl 961 0 v1002.2.length, .sl 1280 0 v1003.length, .sl 1600 0 v1004.length, .sl 1920 0 v1005.length, .sl 2240 0 v1006.length, .sl 2560 0 v1007.length, .sl 139 0 0]), (2560, .row true 5 (v1007.map eLesson)), (128, .box [AS v1000.1, .sl 321 0 v1000.2.1.length, .sl 322 0 v1000.2.2.1.length, AI v1000.2.2.2.1, AI v1000.2.2.2.2.1, .sl 325 0 v1000.2.2.2.2.2.length, .sl 640 0 v1001.length, AS v1002.1, .sl 961 0 v1002.2.length, .sl 1280 0 v1003.length, .sl 1600 0 v1004.length, .sl 1920 0 v1005.length, .sl 2240 0 v1006.length, .sl 138 0 0, .sl 139 0 0]), (2240, .row true 6 (v1006.map eItem)), (128, .box [AS v1000.1, .sl 321 0 v1000.2.1.length, .sl 322 0 v1000.2.2.1.length, AI v1000.2.2.2.1, AI v1000.2.2.2.2.1, .sl 325 0 v1000.2.2.2.2.2.length, .sl 640 0 v1001.length, AS v1002.1, .sl 961 0 v1002.2.length, .sl 1280 0 v1003.length, .sl 1600 0 v1004.length, .sl 1920 0 v1005.length, .sl 137 0 0, .sl 138 0 0, .sl 139 0 0]), (1920, .row true 2 (v1005.map eNote)), (128, .box [AS v1000.1, .sl 321 0 v1000.2.1.length, .sl 322 0 v1000.2.2.1.length, AI v1000.2.2.2.1, AI v1000.2.2.2.2.1, .sl 325 0 v1000.2.2.2.2.2.length, .sl 640 0 v1001.length, AS v1002.1, .sl 961 0 v1002.2.length, .sl 1280 0 v1003.length, .sl 1600 0 v1004.length, .sl 136 0 0, .sl 137 0 0, .sl 138 0 0, .sl 139 0 0]), (1600, .row true 3 (v1004.map eSyllable)), (128, .box [AS v1000.1, .sl 321 0 v1000.2.1.length, .sl 322 0 v1000.2.2.1.length, AI v1000.2.2.2.1, AI v1000.2.2.2.2.1, .sl 325 0 v1000.2.2.2.2.2.length, .sl 640 0 v1001.length, AS v1002.1, .sl 961 0 v1002.2.length, .sl 1280 0 v1003.length, .sl 135 0 0, .sl 136 0 0, .sl 137 0 0, .sl 138 0 0, .sl 139 0 0]), (1280, .row true 1 (v1003.map (eL 1 (V.int .i64)))), (128, .box [AS v1000.1, .sl 321 0 v1000.2.1.length, .sl 322 0 v1000.2.2.1.length, AI v1000.2.2.2.1, AI v1000.2.2.2.2.1, .sl 325 0 v1000.2.2.2.2.2.length, .sl 640 0 v1001.length, AS v1002.1, .sl 961 0 v1002.2.length, .sl 134 0 0, .sl 135 0 0, .sl 136 0 0, .sl 137 0 0, .sl 138 0 0, .sl 139 0 0]), (961, .row true 2 (v1002.2.map eNote)), (128, .box [AS v1000.1, .sl 321 0 v1000.2.1.length, .sl 322 0 v1000.2.2.1.length, AI v1000.2.2.2.1, AI v1000.2.2.2.2.1, .sl 325 0 v1000.2.2.2.2.2.length, .sl 640 0 v1001.length, AS [], .sl 133 0 0, .sl 134 0 0, .sl 135 0 0, .sl 136 0 0, .sl 137 0 0, .sl 138 0 0, .sl 139 0 0]), (640, .row true 2 (v1001.map eNote)), (128, .box [AS v1000.1, .sl 321 0 v1000.2.1.length, .sl 322 0 v1000.2.2.1.length, AI v1000.2.2.2.1, AI v1000.2.2.2.2.1, .sl 325 0 v1000.2.2.2.2.2.length, .sl 132 0 0, AS [], .sl 133 0 0, .sl 134 0 0, .sl 135 0 0, .sl 136 0 0, .sl 137 0 0, .sl 138 0 0, .sl 139 0 0]), (325, .row true 1 (v1000.2.2.2.2.2.map (eL 1 (V.int .i64)))), (322, .row true 1 (v1000.2.2.1.map (V.int .i64))), (321, .row true 1 (v1000.2.1.map (V.int .i64))), (128, .box [AS [], .sl 129 0 0, .sl 130 0 0, AI 0, AI 0, .sl 131 0 0, .sl 132 0 0, AS [], .sl 133 0 0, .sl 134 0 0, .sl 135 0 0, .sl 136 0 0, .sl 137 0 0, .sl 138 0 0, .sl 139 0 0]), (139, .row true 3 (([] : List Int).map (V.int .i64))), (138, .row true 5 (([] : List Int).map (V.int .i64))), (137, .row true 6 (([] : List Int).map (V.int .i64))), (136, .row true 2 (([] : List Int).map (V.int .i64))), (135, .row true 3 (([] : List Int).map (V.int .i64))), (134, .row true 1 (([] : List Int).map (V.int .i64))), (133, .row true 2 (([] : List Int).map (V.int .i64))), (132, .row true 2 (([] : List Int).map (V.int .i64))), (131, .row true 1 (([] : List Int).map (V.int .i64))), (130, .row true 1 (([] : List Int).map (V.int .i64))), (129, .row true 1 (([] : List Int).map (V.int .i64))), (64, .box [AS [], .sl 65 0 0, .sl 66 0 0, AI 0, AI 0, .sl 67 0 0, .sl 68 0 0, AS [], .sl 69 0 0, .sl 70 0 0, .sl 71 0 0, .sl 72 0 0, .sl 73 0 0, .sl 74 0 0, .sl 75 0 0]), (75, .row true 3 (([] : List Int).map (V.int .i64))), (74, .row true 5 (([] : List Int).map (V.int .i64))), (73, .row true 6 (([] : List Int).map (V.int .i64))), (72, .row true 2 (([] : List Int).map (V.int .i64))), (71, .row true 3 (([] : List Int).map (V.int .i64))), (70, .row true 1 (([] : List Int).map (V.int .i64))), (69, .row true 2 (([] : List Int).map (V.int .i64))), (68, .row true 2 (([] : List Int).map (V.int .i64))), (67, .row true 1 (([] : List Int).map (V.int .i64))), (66, .row true 1 (([] : List Int).map (V.int .i64))), (65, .row true 1 (([] : List Int).map (V.int .i64))), (0, .box [AS v0.1, AL 1 (v0.2.1.map (V.int .i64)), AL 1 (v0.2.2.1.map (V.int .i64)), AI v0.2.2.2.1, AI v0.2.2.2.2.1, AL 1 (v0.2.2.2.2.2.1.map (eL 1 (V.int .i64))), AL 2 (v0.2.2.2.2.2.2.1.map eNote), AS v0.2.2.2.2.2.2.2.1, AL 2 (v0.2.2.2.2.2.2.2.2.1.map eNote), AL 1 (v0.2.2.2.2.2.2.2.2.2.1.map (eL 1 (V.int .i64))), AL 3 (v0.2.2.2.2.2.2.2.2.2.2.1.map eSyllable), AL 2 (v0.2.2.2.2.2.2.2.2.2.2.2.1.map eNote), AL 6 (v0.2.2.2.2.2.2.2.2.2.2.2.2.1.map eItem), AL 5 (v0.2.2.2.2.2.2.2.2.2.2.2.2.2.1.map eLesson), AL 3 (v0.2.2.2.2.2.2.2.2.2.2.2.2.2.2.map ePerson)])] (by simp) ?_
 refine r_nil ?_
 refine ws 2752 3072 ?_
 refine qp (.ptr 0 0 14) rfl (qp (AL 3 (v0.2.2.2.2.2.2.2.2.2.2.2.2.2.2.map ePerson)) rfl ?_)
 obtain ⟨v1008, e1008, hF⟩ := bind_get hF
 refine qc (.sl 2880 0 v1008.length) [(2880, .row true 3 (v1008.map ePerson)), (128, .box [AS v1000.1, .sl 321 0 v1000.2.1.length, .sl 322 0 v1000.2.2.1.length, AI v1000.2.2.2.1, AI v1000.2.2.2.2.1, .sl 325 0 v1000.2.2.2.2.2.length, .sl 640 0 v1001.length, AS v1002.1, .sl 961 0 v1002.2.length, .sl 1280 0 v1003.length, .sl 1600 0 v1004.length, .sl 1920 0 v1005.length, .sl 2240 0 v1006.length, .sl 2560 0 v1007.length, .sl 139 0 0]), (2560, .row true 5 (v1007.map eLesson)), (128, .box [AS v1000.1, .sl 321 0 v1000.2.1.length, .sl 322 0 v1000.2.2.1.length, AI v1000.2.2.2.1, AI v1000.2.2.2.2.1, .sl 325 0 v1000.2.2.2.2.2.length, .sl 640 0 v1001.length, AS v1002.1, .sl 961 0 v1002.2.length, .sl 1280 0 v1003.length, .sl 1600 0 v1004.length, .sl 1920 0 v1005.length, .sl 2240 0 v1006.length, .sl 138 0 0, .sl 139 0 0]), (2240, .row true 6 (v1006.map eItem)), (128, .box [AS v1000.1, .sl 321 0 v1000.2.1.length, .sl 322 0 v1000.2.2.1.length, AI v1000.2.2.2.1, AI v1000.2.2.2.2.1, .sl 325 0 v1000.2.2.2.2.2.length, .sl 640 0 v1001.length, AS v1002.1, .sl 961 0 v1002.2.length, .sl 1280 0 v1003.length, .sl 1600 0 v1004.length, .sl 1920 0 v1005.length, .sl 137 0 0, .sl 138 0 0, .sl 139 0 0]), (1920, .row true 2 (v1005.map eNote)), (128, .box [AS v1000.1, .sl 321 0 v1000.2.1.length, .sl 322 0 v1000.2.2.1.length, AI v1000.2.2.2.1, AI v1000.2.2.2.2.1, .sl 325 0 v1000.2.2.2.2.2.length, .sl 640 0 v1001.length, AS v1002.1, .sl 961 0 v1002.2.length, .sl 1280 0 v1003.length, .sl 1600 0 v1004.length, .sl 136 0 0, .sl 137 0 0, .sl 138 0 0, .sl 139 0 0]), (1600, .row true 3 (v1004.map eSyllable)), (128, .box [AS v1000.1, .sl 321 0 v1000.2.1.length, .sl 322 0 v1000.2.2.1.length, AI v1000.2.2.2.1, AI v1000.2.2.2.2.1, .sl 325 0 v1000.2.2.2.2.2.length, .sl 640 0 v1001.length, AS v1002.1, .sl 961 0 v1002.2.length, .sl 1280 0 v1003.length, .sl 135 0 0, .sl 136 0 0, .sl 137 0 0, .sl 138 0 0, .sl 139 0 0]), (1280, .row true 1 (v1003.map (eL 1 (V.int .i64)))), (128, .box [AS v1000.1, .sl 321 0 v1000.2.1.length, .sl 322 0 v1000.2.2.1.length, AI v1000.2.2.2.1, AI v1000.2.2.2.2.1, .sl 325 0 v1000.2.2.2.2.2.length, .sl 640 0 v1001.length, AS v1002.1, .sl 961 0 v1002.2.length, .sl 134 0 0, .sl 135 0 0, .sl 136 0 0, .sl 137 0 0, .sl 138 0 0, .sl 139 0 0]), (961, .row true 2 (v1002.2.map eNote)), (128, .box [AS v1000.1, .sl 321 0 v1000.2.1.length, .sl 322 0 v1000.2.2.1.length, AI v1000.2.2.2.1, AI v1000.2.2.2.2.1, .sl 325 0 v1000.2.2.2.2.2.length, .sl 640 0 v1001.length, AS [], .sl 133 0 0, .sl 134 0 0, .sl 135 0 0, .sl 136 0 0, .sl 137 0 0, .sl 138 0 0, .sl 139 0 0]), (640, .row true 2 (v1001.map eNote)), (128, .box [AS v1000.1, .sl 321 0 v1000.2.1.length, .sl 322 0 v1000.2.2.1.length, AI v1000.2.2.2.1, AI v1000.2.2.2.2.1, .sl 325 0 v1000.2.2.2.2.2.length, .sl 132 0 0, AS [], .sl 133 0 0, .sl 134 0 0, .sl 135 0 0, .sl 136 0 0, .sl 137 0 0, .sl 138 0 0, .sl 139 0 0]), (325, .row true 1 (v1000.2.2.2.2.2.map (eL 1 (V.int .i64)))), (322, .row true 1 (v1000.2.2.1.map (V.int .i64))), (321, .row true 1 (v1000.2.1.map (V.int .i64))), (128, .box [AS [], .sl 129 0 0, .sl 130 0 0, AI 0, AI 0, .sl 131 0 0, .sl 132 0 0, AS [], .sl 133 0 0, .sl 134 0 0, .sl 135 0 0, .sl 136 0 0, .sl 137 0 0, .sl 138 0 0, .sl 139 0 0]), (139, .row true 3 (([] : List Int).map (V.int .i64))), (138, .row true 5 (([] : List Int).map (V.int .i64))), (137, .row true 6 (([] : List Int).map (V.int .i64))), (136, .row true 2 (([] : List Int).map (V.int .i64))), (135, .row true 3 (([] : List Int).map (V.int .i64))), (134, .row true 1 (([] : List Int).map (V.int .i64))), (133, .row true 2 (([] : List Int).map (V.int .i64))), (132, .row true 2 (([] : List Int).map (V.int .i64))), (131, .row true 1 (([] : List Int).map (V.int .i64))), (130, .row true 1 (([] : List Int).map (V.int .i64))), (129, .row true 1 (([] : List Int).map (V.int .i64))), (64, .box [AS [], .sl 65 0 0, .sl 66 0 0, AI 0, AI 0, .sl 67 0 0, .sl 68 0 0, AS [], .sl 69 0 0, .sl 70 0 0, .sl 71 0 0, .sl 72 0 0, .sl 73 0 0, .sl 74 0 0, .sl 75 0 0]), (75, .row true 3 (([] : List Int).map (V.int .i64))), (74, .row true 5 (([] : List Int).map (V.int .i64))), (73, .row true 6 (([] : List Int).map (V.int .i64))), (72, .row true 2 (([] : List Int).map (V.int .i64))), (71, .row true 3 (([] : List Int).map (V.int .i64))), (70, .row true 1 (([] : List Int).map (V.int .i64))), (69, .row true 2 (([] : List Int).map (V.int .i64))), (68, .row true 2 (([] : List Int).map (V.int .i64))), (67, .row true 1 (([] : List Int).map (V.int .i64))), (66, .row true 1 (([] : List Int).map (V.int .i64))), (65, .row true 1 (([] : List Int).map (V.int .i64))), (0, .box [AS v0.1, AL 1 (v0.2.1.map (V.int .i64)), AL 1 (v0.2.2.1.map (V.int .i64)), AI v0.2.2.2.1, AI v0.2.2.2.2.1, AL 1 (v0.2.2.2.2.2.1.map (eL 1 (V.int .i64))), AL 2 (v0.2.2.2.2.2.2.1.map eNote), AS v0.2.2.2.2.2.2.2.1, AL 2 (v0.2.2.2.2.2.2.2.2.1.map eNote), AL 1 (v0.2.2.2.2.2.2.2.2.2.1.map (eL 1 (V.int .i64))), AL 3 (v0.2.2.2.2.2.2.2.2.2.2.1.map eSyllable), AL 2 (v0.2.2.2.2.2.2.2.2.2.2.2.1.map eNote), AL 6 (v0.2.2.2.2.2.2.2.2.2.2.2.2.1.map eItem), AL 5 (v0.2.2.2.2.2.2.2.2.2.2.2.2.2.1.map eLesson), AL 3 (v0.2.2.2.2.2.2.2.2.2.2.2.2.2.2.map ePerson)])] false (con_laws_toPersonS e1008) c73_ok (by first | rfl | simp) (by simp [res_laws_toPersonS]) ?_
 refine qp (.ptr 128 0 14) rfl ?_
 refine qf0 (.undef) [(128, .box [AS v1000.1, .sl 321 0 v1000.2.1.length, .sl 322 0 v1000.2.2.1.length, AI v1000.2.2.2.1, AI v1000.2.2.2.2.1, .sl 325 0 v1000.2.2.2.2.2.length, .sl 640 0 v1001.length, AS v1002.1, .sl 961 0 v1002.2.length, .sl 1280 0 v1003.length, .sl 1600 0 v1004.length, .sl 1920 0 v1005.length, .sl 2240 0 v1006.length, .sl 2560 0 v1007.length, .sl 2880 0 v1008.length]), (2880, .row true 3 (v1008.map ePerson)), (128, .box [AS v1000.1, .sl 321 0 v1000.2.1.length, .sl 322 0 v1000.2.2.1.length, AI v1000.2.2.2.1, AI v1000.2.2.2.2.1, .sl 325 0 v1000.2.2.2.2.2.length, .sl 640 0 v1001.length, AS v1002.1, .sl 961 0 v1002.2.length, .sl 1280 0 v1003.length, .sl 1600 0 v1004.length, .sl 1920 0 v1005.length, .sl 2240 0 v1006.length, .sl 2560 0 v1007.length, .sl 139 0 0]), (2560, .row true 5 (v1007.map eLesson)), (128, .box [AS v1000.1, .sl 321 0 v1000.2.1.length, .sl 322 0 v1000.2.2.1.length, AI v1000.2.2.2.1, AI v1000.2.2.2.2.1, .sl 325 0 v1000.2.2.2.2.2.length, .sl 640 0 v1001.length, AS v1002.1, .sl 961 0 v1002.2.length, .sl 1280 0 v1003.length, .sl 1600 0 v1004.length, .sl 1920 0 v1005.length, .sl 2240 0 v1006.length, .sl 138 0 0, .sl 139 0 0]), (2240, .row true 6 (v1006.map eItem)), (128, .box [AS v1000.1, .sl 321 0 v1000.2.1.length, .sl 322 0 v1000.2.2.1.length, AI v1000.2.2.2.1, AI v1000.2.2.2.2.1, .sl 325 0 v1000.2.2.2.2.2.length, .sl 640 0 v1001.length, AS v1002.1, .sl 961 0 v1002.2.length, .sl 1280 0 v1003.length, .sl 1600 0 v1004.length, .sl 1920 0 v1005.length, .sl 137 0 0, .sl 138 0 0, .sl 139 0 0]), (1920, .row true 2 (v1005.map eNote)), (128, .box [AS v1000.1, .sl 321 0 v1000.2.1.length, .sl 322 0 v1000.2.2.1.length, AI v1000.2.2.2.1, AI v1000.2.2.2.2.1, .sl 325 0 v1000.2.2.2.2.2.length, .sl 640 0 v1001.length, AS v1002.1, .sl 961 0 v1002.2.length, .sl 1280 0 v1003.length, .sl 1600 0 v1004.length, .sl 136 0 0, .sl 137 0 0, .sl 138 0 0, .sl 139 0 0]), (1600, .row true 3 (v1004.map eSyllable)), (128, .box [AS v1000.1, .sl 321 0 v1000.2.1.length, .sl 322 0 v1000.2.2.1.length, AI v1000.2.2.2.1, AI v1000.2.2.2.2.1, .sl 325 0 v1000.2.2.2.2.2.length, .sl 640 0 v1001.length, AS v1002.1, .sl 961 0 v1002.2.length, .sl 1280 0 v1003.length, .sl 135 0 0, .sl 136 0 0, .sl 137 0 0, .sl 138 0 0, .sl 139 0 0]), (1280, .row true 1 (v1003.map (eL 1 (V.int .i64)))), (128, .box [AS v1000.1, .sl 321 0 v1000.2.1.length, .sl 322 0 v1000.2.2.1.length, AI v1000.2.2.2.1, AI v1000.2.2.2.2.1, .sl 325 0 v1000.2.2.2.2.2.length, .sl 640 0 v1001.length, AS v1002.1, .sl 961 0 v1002.2.length, .sl 134 0 0, .sl 135 0 0, .sl 136 0 0, .sl 137 0 0, .sl 138 0 0, .sl 139 0 0]), (961, .row true 2 (v1002.2.map eNote)), (128, .box [AS v1000.1, .sl 321 0 v1000.2.1.length, .sl 322 0 v1000.2.2.1.length, AI v1000.2.2.2.1, AI v1000.2.2.2.2.1, .sl 325 0 v1000.2.2.2.2.2.length, .sl 640 0 v1001.length, AS [], .sl 133 0 0, .sl 134 0 0, .sl 135 0 0, .sl 136 0 0, .sl 137 0 0, .sl 138 0 0, .sl 139 0 0]), (640, .row true 2 (v1001.map eNote)), (128, .box [AS v1000.1, .sl 321 0 v1000.2.1.length, .sl 322 0 v1000.2.2.1.length, AI v1000.2.2.2.1, AI v1000.2.2.2.2.1, .sl 325 0 v1000.2.2.2.2.2.length, .sl 132 0 0, AS [], .sl 133 0 0, .sl 134 0 0, .sl 135 0 0, .sl 136 0 0, .sl 137 0 0, .sl 138 0 0, .sl 139 0 0]), (325, .row true 1 (v1000.2.2.2.2.2.map (eL 1 (V.int .i64)))), (322, .row true 1 (v1000.2.2.1.map (V.int .i64))), (321, .row true 1 (v1000.2.1.map (V.int .i64))), (128, .box [AS [], .sl 129 0 0, .sl 130 0 0, AI 0, AI 0, .sl 131 0 0, .sl 132 0 0, AS [], .sl 133 0 0, .sl 134 0 0, .sl 135 0 0, .sl 136 0 0, .sl 137 0 0, .sl 138 0 0, .sl 139 0 0]), (139, .row true 3 (([] : List Int).map (V.int .i64))), (138, .row true 5 (([] : List Int).map (V.int .i64))), (137, .row true 6 (([] : List Int).map (V.int .i64))), (136, .row true 2 (([] : List Int).map (V.int .i64))), (135, .row true 3 (([] : List Int).map (V.int .i64))), (134, .row true 1 (([] : List Int).map (V.int .i64))), (133, .row true 2 (([] : List Int).map (V.int .i64))), (132, .row true 2 (([] : List Int).map (V.int .i64))), (131, .row true 1 (([] : List Int).map (V.int .i64))), (130, .row true 1 (([] : List Int).map (V.int .i64))), (129, .row true 1 (([] : List Int).map (V.int .i64))), (64, .box [AS [], .sl 65 0 0, .sl 66 0 0, AI 0, AI 0, .sl 67 0 0, .sl 68 0 0, AS [], .sl 69 0 0, .sl 70 0 0, .sl 71 0 0, .sl 72 0 0, .sl 73 0 0, .sl 74 0 0, .sl 75 0 0]), (75, .row true 3 (([] : List Int).map (V.int .i64))), (74, .row true 5 (([] : List Int).map (V.int .i64))), (73, .row true 6 (([] : List Int).map (V.int .i64))), (72, .row true 2 (([] : List Int).map (V.int .i64))), (71, .row true 3 (([] : List Int).map (V.int .i64))), (70, .row true 1 (([] : List Int).map (V.int .i64))), (69, .row true 2 (([] : List Int).map (V.int .i64))), (68, .row true 2 (([] : List Int).map (V.int .i64))), (67, .row true 1 (([] : List Int).map (V.int .i64))), (66, .row true 1 (([] : List Int).map (V.int .i64))), (65, .row true 1 (([] : List Int).map (V.int .i64))), (0, .box [AS v0.1, AL 1 (v0.2.1.map (V.int .i64)), AL 1 (v0.2.2.1.map (V.int .i64)), AI v0.2.2.2.1, AI v0.2.2.2.2.1, AL 1 (v0.2.2.2.2.2.1.map (eL 1 (V.int .i64))), AL 2 (v0.2.2.2.2.2.2.1.map eNote), AS v0.2.2.2.2.2.2.2.1, AL 2 (v0.2.2.2.2.2.2.2.2.1.map eNote), AL 1 (v0.2.2.2.2.2.2.2.2.2.1.map (eL 1 (V.int .i64))), AL 3 (v0.2.2.2.2.2.2.2.2.2.2.1.map eSyllable), AL 2 (v0.2.2.2.2.2.2.2.2.2.2.2.1.map eNote), AL 6 (v0.2.2.2.2.2.2.2.2.2.2.2.2.1.map eItem), AL 5 (v0.2.2.2.2.2.2.2.2.2.2.2.2.2.1.map eLesson), AL 3 (v0.2.2.2.2.2.2.2.2.2.2.2.2.2.2.map ePerson)])] (by simp) ?_
 refine r_nil ?_
 refine ws 3072 3200 ?_
 refine qp (.agg [AS v1000.1, .sl 321 0 v1000.2.1.length, .sl 322 0 v1000.2.2.1.length, AI v1000.2.2.2.1, AI v1000.2.2.2.2.1, .sl 325 0 v1000.2.2.2.2.2.length, .sl 640 0 v1001.length, AS v1002.1, .sl 961 0 v1002.2.length, .sl 1280 0 v1003.length, .sl 1600 0 v1004.length, .sl 1920 0 v1005.length, .sl 2240 0 v1006.length, .sl 2560 0 v1007.length, .sl 2880 0 v1008.length]) rfl ?_
 refine qf0 (.undef) [(64, .box [AS v1000.1, .sl 321 0 v1000.2.1.length, .sl 322 0 v1000.2.2.1.length, AI v1000.2.2.2.1, AI v1000.2.2.2.2.1, .sl 325 0 v1000.2.2.2.2.2.length, .sl 640 0 v1001.length, AS v1002.1, .sl 961 0 v1002.2.length, .sl 1280 0 v1003.length, .sl 1600 0 v1004.length, .sl 1920 0 v1005.length, .sl 2240 0 v1006.length, .sl 2560 0 v1007.length, .sl 2880 0 v1008.length]), (128, .box [AS v1000.1, .sl 321 0 v1000.2.1.length, .sl 322 0 v1000.2.2.1.length, AI v1000.2.2.2.1, AI v1000.2.2.2.2.1, .sl 325 0 v1000.2.2.2.2.2.length, .sl 640 0 v1001.length, AS v1002.1, .sl 961 0 v1002.2.length, .sl 1280 0 v1003.length, .sl 1600 0 v1004.length, .sl 1920 0 v1005.length, .sl 2240 0 v1006.length, .sl 2560 0 v1007.length, .sl 2880 0 v1008.length]), (2880, .row true 3 (v1008.map ePerson)), (128, .box [AS v1000.1, .sl 321 0 v1000.2.1.length, .sl 322 0 v1000.2.2.1.length, AI v1000.2.2.2.1, AI v1000.2.2.2.2.1, .sl 325 0 v1000.2.2.2.2.2.length, .sl 640 0 v1001.length, AS v1002.1, .sl 961 0 v1002.2.length, .sl 1280 0 v1003.length, .sl 1600 0 v1004.length, .sl 1920 0 v1005.length, .sl 2240 0 v1006.length, .sl 2560 0 v1007.length, .sl 139 0 0]), (2560, .row true 5 (v1007.map eLesson)), (128, .box [AS v1000.1, .sl 321 0 v1000.2.1.length, .sl 322 0 v1000.2.2.1.length, AI v1000.2.2.2.1, AI v1000.2.2.2.2.1, .sl 325 0 v1000.2.2.2.2.2.length, .sl 640 0 v1001.length, AS v1002.1, .sl 961 0 v1002.2.length, .sl 1280 0 v1003.length, .sl 1600 0 v1004.length, .sl 1920 0 v1005.length, .sl 2240 0 v1006.length, .sl 138 0 0, .sl 139 0 0]), (2240, .row true 6 (v1006.map eItem)), (128, .box [AS v1000.1, .sl 321 0 v1000.2.1.length, .sl 322 0 v1000.2.2.1.length, AI v1000.2.2.2.1, AI v1000.2.2.2.2.1, .sl 325 0 v1000.2.2.2.2.2.length, .sl 640 0 v1001.length, AS v1002.1, .sl 961 0 v1002.2.length, .sl 1280 0 v1003.length, .sl 1600 0 v1004.length, .sl 1920 0 v1005.length, .sl 137 0 0, .sl 138 0 0, .sl 139 0 0]), (1920, .row true 2 (v1005.map eNote)), (128, .box [AS v1000.1, .sl 321 0 v1000.2.1.length, .sl 322 0 v1000.2.2.1.length, AI v1000.2.2.2.1, AI v1000.2.2.2.2.1, .sl 325 0 v1000.2.2.2.2.2.length, .sl 640 0 v1001.length, AS v1002.1, .sl 961 0 v1002.2.length, .sl 1280 0 v1003.length, .sl 1600 0 v1004.length, .sl 136 0 0, .sl 137 0 0, .sl 138 0 0, .sl 139 0 0]), (1600, .row true 3 (v1004.map eSyllable)), (128, .box [AS v1000.1, .sl 321 0 v1000.2.1.length, .sl 322 0 v1000.2.2.1.length, AI v1000.2.2.2.1, AI v1000.2.2.2.2.1, .sl 325 0 v1000.2.2.2.2.2.length, .sl 640 0 v1001.length, AS v1002.1, .sl 961 0 v1002.2.length, .sl 1280 0 v1003.length, .sl 135 0 0, .sl 136 0 0, .sl 137 0 0, .sl 138 0 0, .sl 139 0 0]), (1280, .row true 1 (v1003.map (eL 1 (V.int .i64)))), (128, .box [AS v1000.1, .sl 321 0 v1000.2.1.length, .sl 322 0 v1000.2.2.1.length, AI v1000.2.2.2.1, AI v1000.2.2.2.2.1, .sl 325 0 v1000.2.2.2.2.2.length, .sl 640 0 v1001.length, AS v1002.1, .sl 961 0 v1002.2.length, .sl 134 0 0, .sl 135 0 0, .sl 136 0 0, .sl 137 0 0, .sl 138 0 0, .sl 139 0 0]), (961, .row true 2 (v1002.2.map eNote)), (128, .box [AS v1000.1, .sl 321 0 v1000.2.1.length, .sl 322 0 v1000.2.2.1.length, AI v1000.2.2.2.1, AI v1000.2.2.2.2.1, .sl 325 0 v1000.2.2.2.2.2.length, .sl 640 0 v1001.length, AS [], .sl 133 0 0, .sl 134 0 0, .sl 135 0 0, .sl 136 0 0, .sl 137 0 0, .sl 138 0 0, .sl 139 0 0]), (640, .row true 2 (v1001.map eNote)), (128, .box [AS v1000.1, .sl 321 0 v1000.2.1.length, .sl 322 0 v1000.2.2.1.length, AI v1000.2.2.2.1, AI v1000.2.2.2.2.1, .sl 325 0 v1000.2.2.2.2.2.length, .sl 132 0 0, AS [], .sl 133 0 0, .sl 134 0 0, .sl 135 0 0, .sl 136 0 0, .sl 137 0 0, .sl 138 0 0, .sl 139 0 0]), (325, .row true 1 (v1000.2.2.2.2.2.map (eL 1 (V.int .i64)))), (322, .row true 1 (v1000.2.2.1.map (V.int .i64))), (321, .row true 1 (v1000.2.1.map (V.int .i64))), (128, .box [AS [], .sl 129 0 0, .sl 130 0 0, AI 0, AI 0, .sl 131 0 0, .sl 132 0 0, AS [], .sl 133 0 0, .sl 134 0 0, .sl 135 0 0, .sl 136 0 0, .sl 137 0 0, .sl 138 0 0, .sl 139 0 0]), (139, .row true 3 (([] : List Int).map (V.int .i64))), (138, .row true 5 (([] : List Int).map (V.int .i64))), (137, .row true 6 (([] : List Int).map (V.int .i64))), (136, .row true 2 (([] : List Int).map (V.int .i64))), (135, .row true 3 (([] : List Int).map (V.int .i64))), (134, .row true 1 (([] : List Int).map (V.int .i64))), (133, .row true 2 (([] : List Int).map (V.int .i64))), (132, .row true 2 (([] : List Int).map (V.int .i64))), (131, .row true 1 (([] : List Int).map (V.int .i64))), (130, .row true 1 (([] : List Int).map (V.int .i64))), (129, .row true 1 (([] : List Int).map (V.int .i64))), (64, .box [AS [], .sl 65 0 0, .sl 66 0 0, AI 0, AI 0, .sl 67 0 0, .sl 68 0 0, AS [], .sl 69 0 0, .sl 70 0 0, .sl 71 0 0, .sl 72 0 0, .sl 73 0 0, .sl 74 0 0, .sl 75 0 0]), (75, .row true 3 (([] : List Int).map (V.int .i64))), (74, .row true 5 (([] : List Int).map (V.int .i64))), (73, .row true 6 (([] : List Int).map (V.int .i64))), (72, .row true 2 (([] : List Int).map (V.int .i64))), (71, .row true 3 (([] : List Int).map (V.int .i64))), (70, .row true 1 (([] : List Int).map (V.int .i64))), (69, .row true 2 (([] : List Int).map (V.int .i64))), (68, .row true 2 (([] : List Int).map (V.int .i64))), (67, .row true 1 (([] : List Int).map (V.int .i64))), (66, .row true 1 (([] : List Int).map (V.int .i64))), (65, .row true 1 (([] : List Int).map (V.int .i64))), (0, .box [AS v0.1, AL 1 (v0.2.1.map (V.int .i64)), AL 1 (v0.2.2.1.map (V.int .i64)), AI v0.2.2.2.1, AI v0.2.2.2.2.1, AL 1 (v0.2.2.2.2.2.1.map (eL 1 (V.int .i64))), AL 2 (v0.2.2.2.2.2.2.1.map eNote), AS v0.2.2.2.2.2.2.2.1, AL 2 (v0.2.2.2.2.2.2.2.2.1.map eNote), AL 1 (v0.2.2.2.2.2.2.2.2.2.1.map (eL 1 (V.int .i64))), AL 3 (v0.2.2.2.2.2.2.2.2.2.2.1.map eSyllable), AL 2 (v0.2.2.2.2.2.2.2.2.2.2.2.1.map eNote), AL 6 (v0.2.2.2.2.2.2.2.2.2.2.2.2.1.map eItem), AL 5 (v0.2.2.2.2.2.2.2.2.2.2.2.2.2.1.map eLesson), AL 3 (v0.2.2.2.2.2.2.2.2.2.2.2.2.2.2.map ePerson)])] (by simp) ?_
 refine r_nil ?_
 refine w_ret ?_
 cases hF
 exact eR

def c67 : MC := (.seq (.reg [rg 4 (.p true (.mv (.c (.bool false))))]) (.seq (.seq (.reg [rg 6 (.p true (.mv (.t 0))), rg 7 (.p true (.len (.t 6))), rg 8 (.p true (.mv (.t 1))), rg 9 (.p true (.len (.t 8))), rg 10 (.p true (.bin .neq (.t 7) (.t 9)))]) (.cond (.t 10) (.seq (.reg [rg 4 (.p true (.mv (.c (.bool false))))]) .ret) .skip)) (.seq (.seq (.reg [rg 5 (.p true (.mv (.c (.int .i64 0))))]) (.block 0 (.loop (.seq (.seq (.reg [rg 11 (.p true (.mv (.t 5))), rg 12 (.p true (.mv (.t 0))), rg 13 (.p true (.len (.t 12))), rg 14 (.p true (.bin .lss (.t 11) (.t 13)))]) (.cond (.t 14) .skip (.exit 0))) (.seq (.block 1 (.seq (.reg [rg 17 (.p false (.mv (.t 0))), rg 18 (.p false (.mv (.t 5))), rg 19 (.p false (.iad (.t 17) (.t 18) 1)), rg 20 (.p false (.ld (.t 19) 1 false)), rg 21 (.p false (.mv (.t 1))), rg 22 (.p false (.mv (.t 5))), rg 23 (.p false (.iad (.t 21) (.t 22) 1)), rg 24 (.p false (.ld (.t 23) 1 false)), rg 25 (.p false (.bin .neq (.t 20) (.t 24)))]) (.cond (.t 25) (.seq (.reg [rg 4 (.p true (.mv (.c (.bool false))))]) .ret) .skip))) (.reg [rg 15 (.p true (.mv (.t 5))), rg 16 (.p true (.bin .add (.t 15) (.c (.int .i64 1)))), rg 5 (.p true (.mv (.t 16)))])))))) (.seq (.reg [rg 4 (.p true (.mv (.c (.bool true))))]) .ret))))
theorem c67_is : compFn Try.prog 67 = some (c67, [(.tmp 4)]) := by kernel_rfl
theorem c67_ok : okFn Try.prog 67 = true := by kernel_rfl

noncomputable def F_spec_l00Same_l0 (v0 : List Int) (v1 : List Int) (k0 : Int → Option (Bool)) : Int → Option (Bool)
 | v7 => (bif (decide (v7 < (v0.length : Int))) then ((ix v0 v7).bind fun v1000 => ((ix v1 v7).bind fun v1001 => (bif (decide (v1000 ≠ v1001)) then some false
 else k0 (w64 (v7 + 1)))))
 else some true)
noncomputable def F_spec_l00Same (v0 : List Int) (v1 : List Int) : Option (Bool) :=
 (bif (decide ((v0.length : Int) ≠ (v1.length : Int))) then some false
 else loop (F_spec_l00Same_l0 v0 v1) 0)
@[simp] def res_spec_l00Same (r : Bool) : RV := .one (.one (.val (.bool r)))
theorem con_spec_l00Same {v0 : List Int} {v1 : List Int} {r : Bool} (hF : F_spec_l00Same v0 v1 = some r) : Con Try.prog 67 [.sl 1 (v0.map (V.int .i64)), .sl 1 (v1.map (V.int .i64))] (res_spec_l00Same r) := by
 unfold F_spec_l00Same at hF
 refine con_of c67_is fun N => ?_
 refine ws 0 64 ?_
 refine qp (AB false) rfl ?_
 refine r_nil ?_
 refine w_seq ?_
 refine ws 64 384 ?_
 refine qp (AL 1 (v0.map (V.int .i64))) rfl (qp (AI (v0.length : Int)) (ev_len_n rfl) (qp (AL 1 (v1.map (V.int .i64))) rfl (qp (AI (v1.length : Int)) (ev_len_n rfl) (qp (AB (decide ((v0.length : Int) ≠ (v1.length : Int)))) rfl ?_))))
 refine r_nil ?_
 refine cF hF (fun hF => ?_) fun hF => ?_
 ·
  refine ws 384 448 ?_
  refine qp (AB false) rfl ?_
  refine r_nil ?_
  refine w_ret ?_
  refine thenQ_r ?_
  cases hF
  exact eR
 ·
  refine w_skip ?_
  refine thenQ_n ?_
  refine w_seq ?_
  refine ws 384 448 ?_
  refine qp (AI 0) rfl ?_
  refine r_nil ?_
  refine w_block ?_
  refine wr (l' := [(0, AL 1 (v0.map (V.int .i64))), (1, AL 1 (v1.map (V.int .i64))), (5, AI 0)]) (L := []) [0, 1, 5] [] 1 ?_
  refine w_loopF (F_spec_l00Same_l0 v0 v1) (fun s : Int => mkS [(0, AL 1 (v0.map (V.int .i64))), (1, AL 1 (v1.map (V.int .i64))), (5, AI s)] (fo []) 1) hF ?_
  rintro k0 v7 hF
  rw [F_spec_l00Same_l0] at hF
  try dsimp only
  refine w_seq ?_
  refine ws 1 257 ?_
  refine qp (AI v7) rfl (qp (AL 1 (v0.map (V.int .i64))) rfl (qp (AI (v0.length : Int)) (ev_len_n rfl) (qp (AB (decide (v7 < (v0.length : Int)))) rfl ?_)))
  refine r_nil ?_
  refine cF hF (fun hF => ?_) fun hF => ?_
  ·
   refine w_skip ?_
   refine thenQ_n ?_
   refine w_seq ?_
   refine w_block ?_
   refine ws 257 833 ?_
   refine qp (AL 1 (v0.map (V.int .i64))) rfl (qp (AI v7) rfl ?_)
   obtain ⟨v1000, e1000, hF⟩ := bind_get hF
   refine qp (.val none (.ptr [.int .i64 v1000])) (ev_iad_n rfl rfl e1000 rfl) (qp (AI v1000) rfl (qp (AL 1 (v1.map (V.int .i64))) rfl (qp (AI v7) rfl ?_)))
   obtain ⟨v1001, e1001, hF⟩ := bind_get hF
   refine qp (.val none (.ptr [.int .i64 v1001])) (ev_iad_n rfl rfl e1001 rfl) (qp (AI v1001) rfl (qp (AB (decide (v1000 ≠ v1001))) rfl ?_))
   refine r_nil ?_
   refine cF hF (fun hF => ?_) fun hF => ?_
   ·
    refine ws 833 897 ?_
    refine qp (AB false) rfl ?_
    refine r_nil ?_
    refine w_ret ?_
    refine blockQ_r ?_
    refine thenQ_r ?_
    refine thenQ_r ?_
    refine blockQ_r ?_
    refine thenQ_r ?_
    cases hF
    exact eR
   ·
    refine w_skip ?_
    refine blockQ_n ?_
    refine thenQ_n ?_
    refine w_reg 833 1025 rfl rfl ?_
    refine qp (AI v7) rfl (qp (AI (w64 (v7 + 1))) rfl (qp (AI (w64 (v7 + 1))) rfl ?_))
    refine r_nil ?_
    refine thenQ_n ?_
    refine ar (l' := [(0, AL 1 (v0.map (V.int .i64))), (1, AL 1 (v1.map (V.int .i64))), (5, AI (w64 (v7 + 1)))]) (L := []) [0, 1, 5] [] 1 ⟨_, by rfl, hF⟩
  ·
   refine w_exit ?_
   refine thenQ_e ?_
   refine thenQ_e ?_
   refine blockQ_e ?_
   refine thenQ_n ?_
   refine ws 257 321 ?_
   refine qp (AB true) rfl ?_
   refine r_nil ?_
   refine w_ret ?_
   cases hF
   exact eR

def c63 : MC := (.seq (.reg [rg 2 (.f (.box (.t 0))), rg 3 (.f (.box (.t 1))), rg 4 (.p true (.mv (.c (.bool false))))]) (.seq (.seq (.reg [rg 6 (.p true (.fad (.t 2) 0)), rg 7 (.p true (.ld (.t 6) 1 false)), rg 8 (.p true (.fad (.t 3) 0)), rg 9 (.p true (.ld (.t 8) 1 false)), rg 10 (.p true (.bin .neq (.t 7) (.t 9))), rg 11 (.p true (.mv (.t 10))), ⟨(some 12), (some (11, false)), (.p true (.fad (.t 2) 1))⟩, ⟨(some 13), (some (11, false)), (.p true (.ld (.t 12) 1 false))⟩, ⟨(some 14), (some (11, false)), (.p true (.fad (.t 3) 1))⟩, ⟨(some 15), (some (11, false)), (.p true (.ld (.t 14) 1 false))⟩, ⟨(some 16), (some (11, false)), (.call true 67 [(.t 13), (.t 15)])⟩, ⟨(some 17), (some (11, false)), (.p true (.not (.t 16)))⟩, rg 18 (.p true (.pick (.t 11) (.c (.bool true)) (.t 17))), rg 19 (.p true (.mv (.t 18))), ⟨(some 20), (some (19, false)), (.p true (.fad (.t 2) 2))⟩, ⟨(some 21), (some (19, false)), (.p true (.ld (.t 20) 1 false))⟩, ⟨(some 22), (some (19, false)), (.p true (.fad (.t 3) 2))⟩, ⟨(some 23), (some (19, false)), (.p true (.ld (.t 22) 1 false))⟩, ⟨(some 24), (some (19, false)), (.call true 67 [(.t 21), (.t 23)])⟩, ⟨(some 25), (some (19, false)), (.p true (.not (.t 24)))⟩, rg 26 (.p true (.pick (.t 19) (.c (.bool true)) (.t 25))), rg 27 (.p true (.mv (.t 26))), ⟨(some 28), (some (27, false)), (.p true (.fad (.t 2) 3))⟩, ⟨(some 29), (some (27, false)), (.p true (.ld (.t 28) 1 false))⟩, ⟨(some 30), (some (27, false)), (.p true (.fad (.t 3) 3))⟩, ⟨(some 31), (some (27, false)), (.p true (.ld (.t 30) 1 false))⟩, ⟨(some 32), (some (27, false)), (.p true (.bin .neq (.t 29) (.t 31)))⟩, rg 33 (.p true (.pick (.t 27) (.c (.bool true)) (.t 32))), rg 34 (.p true (.mv (.t 33))), ⟨(some 35), (some (34, false)), (.p true (.fad (.t 2) 4))⟩, ⟨(some 36), (some (34, false)), (.p true (.ld (.t 35) 1 false))⟩, ⟨(some 37), (some (34, false)), (.p true (.fad (.t 3) 4))⟩, ⟨(some 38), (some (34, false)), (.p true (.ld (.t 37) 1 false))⟩, ⟨(some 39), (some (34, false)), (.p true (.bin .neq (.t 36) (.t 38)))⟩, rg 40 (.p true (.pick (.t 34) (.c (.bool true)) (.t 39))), rg 41 (.p true (.mv (.t 40))), ⟨(some 42), (some (41, false)), (.p true (.fad (.t 2) 5))⟩, ⟨(some 43), (some (41, false)), (.p true (.ld (.t 42) 1 false))⟩, ⟨(some 44), (some (41, false)), (.p true (.len (.t 43)))⟩, ⟨(some 45), (some (41, false)), (.p true (.fad (.t 3) 5))⟩, ⟨(some 46), (some (41, false)), (.p true (.ld (.t 45) 1 false))⟩, ⟨(some 47), (some (41, false)), (.p true (.len (.t 46)))⟩, ⟨(some 48), (some (41, false)), (.p true (.bin .neq (.t 44) (.t 47)))⟩, rg 49 (.p true (.pick (.t 41) (.c (.bool true)) (.t 48)))]) (.cond (.t 49) (.seq (.reg [rg 4 (.p true (.mv (.c (.bool false))))]) .ret) .skip)) (.seq (.seq (.reg [rg 5 (.p true (.mv (.c (.int .i64 0))))]) (.block 0 (.loop (.seq (.seq (.reg [rg 50 (.p true (.mv (.t 5))), rg 51 (.p true (.fad (.t 2) 5)), rg 52 (.p true (.ld (.t 51) 1 false)), rg 53 (.p true (.len (.t 52))), rg 54 (.p true (.bin .lss (.t 50) (.t 53)))]) (.cond (.t 54) .skip (.exit 0))) (.seq (.block 1 (.seq (.reg [rg 57 (.p false (.fad (.t 2) 5)), rg 58 (.p false (.ld (.t 57) 1 false)), rg 59 (.p false (.mv (.t 5))), rg 60 (.p false (.iad (.t 58) (.t 59) 1)), rg 61 (.p false (.ld (.t 60) 1 false)), rg 62 (.p false (.fad (.t 3) 5)), rg 63 (.p false (.ld (.t 62) 1 false)), rg 64 (.p false (.mv (.t 5))), rg 65 (.p false (.iad (.t 63) (.t 64) 1)), rg 66 (.p false (.ld (.t 65) 1 false)), rg 67 (.call false 67 [(.t 61), (.t 66)]), rg 68 (.p false (.not (.t 67)))]) (.cond (.t 68) (.seq (.reg [rg 4 (.p true (.mv (.c (.bool false))))]) .ret) .skip))) (.reg [rg 55 (.p true (.mv (.t 5))), rg 56 (.p true (.bin .add (.t 55) (.c (.int .i64 1)))), rg 5 (.p true (.mv (.t 56)))])))))) (.seq (.reg [rg 4 (.p true (.mv (.c (.bool true))))]) .ret))))
theorem c63_is : compFn Try.prog 63 = some (c63, [(.tmp 4)]) := by kernel_rfl
theorem c63_ok : okFn Try.prog 63 = true := by kernel_rfl

noncomputable def F_spec_SameRaga_l0 (v0 : TRaga) (v1 : TRaga) (k1 : Int → Option (Bool)) : Int → Option (Bool)
 | v1009 => (bif (decide (v1009 < (v0.2.2.2.2.2.length : Int))) then ((ix v0.2.2.2.2.2 v1009).bind fun v1010 => ((ix v1.2.2.2.2.2 v1009).bind fun v1011 => ((F_spec_l00Same v1010 v1011).bind fun v1012 => (bif (!v1012) then some false
 else k1 (w64 (v1009 + 1))))))
 else some true)
noncomputable def F_spec_SameRaga (v0 : TRaga) (v1 : TRaga) : Option (Bool) :=
 (bif (decide (v0.1 ≠ v1.1)) then some false
 else ((F_spec_l00Same v0.2.1 v1.2.1).bind fun v1000 => (bif (!v1000) then some false
 else ((F_spec_l00Same v0.2.2.1 v1.2.2.1).bind fun v1001 => (bif (!v1001) then some false
 else (bif (decide (v0.2.2.2.1 ≠ v1.2.2.2.1)) then some false
 else (bif (decide (v0.2.2.2.2.1 ≠ v1.2.2.2.2.1)) then some false
 else (bif (decide ((v0.2.2.2.2.2.length : Int) ≠ (v1.2.2.2.2.2.length : Int))) then some false
 else loop (F_spec_SameRaga_l0 v0 v1) 0))))))))
@[simp] def res_spec_SameRaga (r : Bool) : RV := .one (.one (.val (.bool r)))
theorem con_spec_SameRaga {v0 : TRaga} {v1 : TRaga} {r : Bool} (hF : F_spec_SameRaga v0 v1 = some r) : Con Try.prog 63 [eRaga v0, eRaga v1] (res_spec_SameRaga r) := by
 unfold F_spec_SameRaga at hF
 refine con_of c63_is fun N => ?_
 refine ws 0 192 ?_
 refine qf (.ptr 0 0 0) [(0, .box [AS v0.1, AL 1 (v0.2.1.map (V.int .i64)), AL 1 (v0.2.2.1.map (V.int .i64)), AI v0.2.2.2.1, AI v0.2.2.2.2.1, AL 1 (v0.2.2.2.2.2.map (eL 1 (V.int .i64)))])] (by simp) ?_
 refine qf (.ptr 64 0 0) [(64, .box [AS v1.1, AL 1 (v1.2.1.map (V.int .i64)), AL 1 (v1.2.2.1.map (V.int .i64)), AI v1.2.2.2.1, AI v1.2.2.2.2.1, AL 1 (v1.2.2.2.2.2.map (eL 1 (V.int .i64)))]), (0, .box [AS v0.1, AL 1 (v0.2.1.map (V.int .i64)), AL 1 (v0.2.2.1.map (V.int .i64)), AI v0.2.2.2.1, AI v0.2.2.2.2.1, AL 1 (v0.2.2.2.2.2.map (eL 1 (V.int .i64)))])] (by simp) ?_
 refine qp (AB false) rfl ?_
 refine r_nil ?_
 refine w_seq ?_
 refine ws 192 3008 ?_
 refine qp (.ptr 0 0 0) rfl (qp (AS v0.1) rfl (qp (.ptr 64 0 0) rfl (qp (AS v1.1) rfl (qp (AB (decide (v0.1 ≠ v1.1))) rfl (qp (AB (decide (v0.1 ≠ v1.1))) rfl ?_)))))
 refine q_case 11 hF rfl (fun hF => ?_) (fun hF => ?_)
 ·
  refine qn rfl (qn rfl (qn rfl (qn rfl (qn rfl (qn rfl (qp (AB true) rfl (qp (AB true) rfl ?_)))))))
  refine qn rfl (qn rfl (qn rfl (qn rfl (qn rfl (qn rfl (qp (AB true) rfl (qp (AB true) rfl ?_)))))))
  refine qn rfl (qn rfl (qn rfl (qn rfl (qn rfl (qp (AB true) rfl (qp (AB true) rfl (qn rfl ?_)))))))
  refine qn rfl (qn rfl (qn rfl (qn rfl (qp (AB true) rfl (qp (AB true) rfl (qn rfl (qn rfl ?_)))))))
  refine qn rfl (qn rfl (qn rfl (qn rfl (qn rfl (qp (AB true) rfl ?_)))))
  refine r_nil ?_
  refine w_true rfl ?_
  refine ws 3008 3072 ?_
  refine qp (AB false) rfl ?_
  refine r_nil ?_
  refine w_ret ?_
  refine thenQ_r ?_
  cases hF
  exact eR
 ·
  refine qg (.ptr 0 0 1) rfl rfl (qg (AL 1 (v0.2.1.map (V.int .i64))) rfl rfl (qg (.ptr 64 0 1) rfl rfl (qg (AL 1 (v1.2.1.map (V.int .i64))) rfl rfl ?_)))
  obtain ⟨v1000, e1000, hF⟩ := bind_get hF
  refine qcg (AB v1000) [(64, .box [AS v1.1, AL 1 (v1.2.1.map (V.int .i64)), AL 1 (v1.2.2.1.map (V.int .i64)), AI v1.2.2.2.1, AI v1.2.2.2.2.1, AL 1 (v1.2.2.2.2.2.map (eL 1 (V.int .i64)))]), (0, .box [AS v0.1, AL 1 (v0.2.1.map (V.int .i64)), AL 1 (v0.2.2.1.map (V.int .i64)), AI v0.2.2.2.1, AI v0.2.2.2.2.1, AL 1 (v0.2.2.2.2.2.map (eL 1 (V.int .i64)))])] false rfl (con_spec_l00Same e1000) c67_ok (by first | rfl | simp) rfl ?_
  refine qg (AB (!v1000)) rfl rfl (qp (AB (!v1000)) rfl (qp (AB (!v1000)) rfl ?_))
  refine q_case 19 hF rfl (fun hF => ?_) (fun hF => ?_)
  ·
   refine qn rfl (qn rfl (qn rfl (qn rfl (qn rfl (qn rfl (qp (AB true) rfl (qp (AB true) rfl ?_)))))))
   refine qn rfl (qn rfl (qn rfl (qn rfl (qn rfl (qp (AB true) rfl (qp (AB true) rfl (qn rfl ?_)))))))
   refine qn rfl (qn rfl (qn rfl (qn rfl (qp (AB true) rfl (qp (AB true) rfl (qn rfl (qn rfl ?_)))))))
   refine qn rfl (qn rfl (qn rfl (qn rfl (qn rfl (qp (AB true) rfl ?_)))))
   refine r_nil ?_
   refine w_true rfl ?_
   refine ws 3008 3072 ?_
   refine qp (AB false) rfl ?_
   refine r_nil ?_
   refine w_ret ?_
   refine thenQ_r ?_
   cases hF
   exact eR
  ·
   refine qg (.ptr 0 0 2) rfl rfl (qg (AL 1 (v0.2.2.1.map (V.int .i64))) rfl rfl (qg (.ptr 64 0 2) rfl rfl (qg (AL 1 (v1.2.2.1.map (V.int .i64))) rfl rfl ?_)))
   obtain ⟨v1001, e1001, hF⟩ := bind_get hF
   refine qcg (AB v1001) [(64, .box [AS v1.1, AL 1 (v1.2.1.map (V.int .i64)), AL 1 (v1.2.2.1.map (V.int .i64)), AI v1.2.2.2.1, AI v1.2.2.2.2.1, AL 1 (v1.2.2.2.2.2.map (eL 1 (V.int .i64)))]), (0, .box [AS v0.1, AL 1 (v0.2.1.map (V.int .i64)), AL 1 (v0.2.2.1.map (V.int .i64)), AI v0.2.2.2.1, AI v0.2.2.2.2.1, AL 1 (v0.2.2.2.2.2.map (eL 1 (V.int .i64)))])] false rfl (con_spec_l00Same e1001) c67_ok (by first | rfl | simp) rfl ?_
   refine qg (AB (!v1001)) rfl rfl (qp (AB (!v1001)) rfl (qp (AB (!v1001)) rfl ?_))
   refine q_case 27 hF rfl (fun hF => ?_) (fun hF => ?_)
   ·
    refine qn rfl (qn rfl (qn rfl (qn rfl (qn rfl (qp (AB true) rfl (qp (AB true) rfl (qn rfl ?_)))))))
    refine qn rfl (qn rfl (qn rfl (qn rfl (qp (AB true) rfl (qp (AB true) rfl (qn rfl (qn rfl ?_)))))))
    refine qn rfl (qn rfl (qn rfl (qn rfl (qn rfl (qp (AB true) rfl ?_)))))
    refine r_nil ?_
    refine w_true rfl ?_
    refine ws 3008 3072 ?_
    refine qp (AB false) rfl ?_
    refine r_nil ?_
    refine w_ret ?_
    refine thenQ_r ?_
    cases hF
    exact eR
   ·
    refine qg (.ptr 0 0 3) rfl rfl (qg (AI v0.2.2.2.1) rfl rfl (qg (.ptr 64 0 3) rfl rfl (qg (AI v1.2.2.2.1) rfl rfl (qg (AB (decide (v0.2.2.2.1 ≠ v1.2.2.2.1))) rfl rfl (qp (AB (decide (v0.2.2.2.1 ≠ v1.2.2.2.1))) rfl (qp (AB (decide (v0.2.2.2.1 ≠ v1.2.2.2.1))) rfl ?_))))))
    refine q_case 34 hF rfl (fun hF => ?_) (fun hF => ?_)
    ·
     refine qn rfl (qn rfl (qn rfl (qn rfl (qn rfl (qp (AB true) rfl (qp (AB true) rfl (qn rfl ?_)))))))
     refine qn rfl (qn rfl (qn rfl (qn rfl (qn rfl (qn rfl (qp (AB true) rfl ?_))))))
     refine r_nil ?_
     refine w_true rfl ?_
     refine ws 3008 3072 ?_
     refine qp (AB false) rfl ?_
     refine r_nil ?_
     refine w_ret ?_
     refine thenQ_r ?_
     cases hF
     exact eR
    ·
     refine qg (.ptr 0 0 4) rfl rfl (qg (AI v0.2.2.2.2.1) rfl rfl (qg (.ptr 64 0 4) rfl rfl (qg (AI v1.2.2.2.2.1) rfl rfl (qg (AB (decide (v0.2.2.2.2.1 ≠ v1.2.2.2.2.1))) rfl rfl (qp (AB (decide (v0.2.2.2.2.1 ≠ v1.2.2.2.2.1))) rfl (qp (AB (decide (v0.2.2.2.2.1 ≠ v1.2.2.2.2.1))) rfl ?_))))))
     refine q_case 41 hF rfl (fun hF => ?_) (fun hF => ?_)
     ·
      refine qn rfl (qn rfl (qn rfl (qn rfl (qn rfl (qn rfl (qn rfl (qp (AB true) rfl ?_)))))))
      refine r_nil ?_
      refine w_true rfl ?_
      refine ws 3008 3072 ?_
      refine qp (AB false) rfl ?_
      refine r_nil ?_
      refine w_ret ?_
      refine thenQ_r ?_
      cases hF
      exact eR
     ·
      refine qg (.ptr 0 0 5) rfl rfl (qg (AL 1 (v0.2.2.2.2.2.map (eL 1 (V.int .i64)))) rfl rfl (qg (AI (v0.2.2.2.2.2.length : Int)) rfl (ev_len_n rfl) (qg (.ptr 64 0 5) rfl rfl (qg (AL 1 (v1.2.2.2.2.2.map (eL 1 (V.int .i64)))) rfl rfl (qg (AI (v1.2.2.2.2.2.length : Int)) rfl (ev_len_n rfl) (qg (AB (decide ((v0.2.2.2.2.2.length : Int) ≠ (v1.2.2.2.2.2.length : Int)))) rfl rfl (qp (AB (decide ((v0.2.2.2.2.2.length : Int) ≠ (v1.2.2.2.2.2.length : Int)))) rfl ?_)))))))
      refine r_nil ?_
      refine cF hF (fun hF => ?_) fun hF => ?_
      ·
       refine ws 3008 3072 ?_
       refine qp (AB false) rfl ?_
       refine r_nil ?_
       refine w_ret ?_
       refine thenQ_r ?_
       cases hF
       exact eR
      ·
       refine w_skip ?_
       refine thenQ_n ?_
       refine w_seq ?_
       refine ws 3008 3072 ?_
       refine qp (AI 0) rfl ?_
       refine r_nil ?_
       refine w_block ?_
       refine wr (l' := [(2, .ptr 0 0 0), (3, .ptr 1 0 0), (5, AI 0)]) (L := [(1, .box [AS v1.1, AL 1 (v1.2.1.map (V.int .i64)), AL 1 (v1.2.2.1.map (V.int .i64)), AI v1.2.2.2.1, AI v1.2.2.2.2.1, AL 1 (v1.2.2.2.2.2.map (eL 1 (V.int .i64)))]), (0, .box [AS v0.1, AL 1 (v0.2.1.map (V.int .i64)), AL 1 (v0.2.2.1.map (V.int .i64)), AI v0.2.2.2.1, AI v0.2.2.2.2.1, AL 1 (v0.2.2.2.2.2.map (eL 1 (V.int .i64)))])]) [2, 3, 5] [(64, 1), (0, 0)] 2 ?_
       refine w_loopF (F_spec_SameRaga_l0 v0 v1) (fun s : Int => mkS [(2, .ptr 0 0 0), (3, .ptr 1 0 0), (5, AI s)] (fo [(1, .box [AS v1.1, AL 1 (v1.2.1.map (V.int .i64)), AL 1 (v1.2.2.1.map (V.int .i64)), AI v1.2.2.2.1, AI v1.2.2.2.2.1, AL 1 (v1.2.2.2.2.2.map (eL 1 (V.int .i64)))]), (0, .box [AS v0.1, AL 1 (v0.2.1.map (V.int .i64)), AL 1 (v0.2.2.1.map (V.int .i64)), AI v0.2.2.2.1, AI v0.2.2.2.2.1, AL 1 (v0.2.2.2.2.2.map (eL 1 (V.int .i64)))])]) 2) hF ?_
       rintro k1 v1009 hF
       rw [F_spec_SameRaga_l0] at hF
       try dsimp only
       refine w_seq ?_
       refine ws 2 322 ?_
       refine qp (AI v1009) rfl (qp (.ptr 0 0 5) rfl (qp (AL 1 (v0.2.2.2.2.2.map (eL 1 (V.int .i64)))) rfl (qp (AI (v0.2.2.2.2.2.length : Int)) (ev_len_n rfl) (qp (AB (decide (v1009 < (v0.2.2.2.2.2.length : Int)))) rfl ?_))))
       refine r_nil ?_
       refine cF hF (fun hF => ?_) fun hF => ?_
       ·
        refine w_skip ?_
        refine thenQ_n ?_
        refine w_seq ?_
        refine w_block ?_
        refine ws 322 1090 ?_
        refine qp (.ptr 0 0 5) rfl (qp (AL 1 (v0.2.2.2.2.2.map (eL 1 (V.int .i64)))) rfl (qp (AI v1009) rfl ?_))
        obtain ⟨v1010, e1010, hF⟩ := bind_get hF
        refine qp (.val none (.ptr [.sl 1 (v1010.map (V.int .i64))])) (ev_iad_n rfl rfl e1010 rfl) (qp (AL 1 (v1010.map (V.int .i64))) rfl (qp (.ptr 1 0 5) rfl (qp (AL 1 (v1.2.2.2.2.2.map (eL 1 (V.int .i64)))) rfl (qp (AI v1009) rfl ?_))))
        obtain ⟨v1011, e1011, hF⟩ := bind_get hF
        refine qp (.val none (.ptr [.sl 1 (v1011.map (V.int .i64))])) (ev_iad_n rfl rfl e1011 rfl) (qp (AL 1 (v1011.map (V.int .i64))) rfl ?_)
        obtain ⟨v1012, e1012, hF⟩ := bind_get hF
        refine qc (AB v1012) [(1, .box [AS v1.1, AL 1 (v1.2.1.map (V.int .i64)), AL 1 (v1.2.2.1.map (V.int .i64)), AI v1.2.2.2.1, AI v1.2.2.2.2.1, AL 1 (v1.2.2.2.2.2.map (eL 1 (V.int .i64)))]), (0, .box [AS v0.1, AL 1 (v0.2.1.map (V.int .i64)), AL 1 (v0.2.2.1.map (V.int .i64)), AI v0.2.2.2.1, AI v0.2.2.2.2.1, AL 1 (v0.2.2.2.2.2.map (eL 1 (V.int .i64)))])] false (con_spec_l00Same e1012) c67_ok (by first | rfl | simp) rfl ?_
        refine qp (AB (!v1012)) rfl ?_
        refine r_nil ?_
        refine cF hF (fun hF => ?_) fun hF => ?_
        ·
         refine ws 1090 1154 ?_
         refine qp (AB false) rfl ?_
         refine r_nil ?_
         refine w_ret ?_
         refine blockQ_r ?_
         refine thenQ_r ?_
         refine thenQ_r ?_
         refine blockQ_r ?_
         refine thenQ_r ?_
         cases hF
         exact eR
        ·
         refine w_skip ?_
         refine blockQ_n ?_
         refine thenQ_n ?_
         refine w_reg 1090 1282 rfl rfl ?_
         refine qp (AI v1009) rfl (qp (AI (w64 (v1009 + 1))) rfl (qp (AI (w64 (v1009 + 1))) rfl ?_))
         refine r_nil ?_
         refine thenQ_n ?_
         refine ar (l' := [(2, .ptr 0 0 0), (3, .ptr 1 0 0), (5, AI (w64 (v1009 + 1)))]) (L := [(1, .box [AS v1.1, AL 1 (v1.2.1.map (V.int .i64)), AL 1 (v1.2.2.1.map (V.int .i64)), AI v1.2.2.2.1, AI v1.2.2.2.2.1, AL 1 (v1.2.2.2.2.2.map (eL 1 (V.int .i64)))]), (0, .box [AS v0.1, AL 1 (v0.2.1.map (V.int .i64)), AL 1 (v0.2.2.1.map (V.int .i64)), AI v0.2.2.2.1, AI v0.2.2.2.2.1, AL 1 (v0.2.2.2.2.2.map (eL 1 (V.int .i64)))])]) [2, 3, 5] [(1, 1), (0, 0)] 2 ⟨_, by rfl, hF⟩
       ·
        refine w_exit ?_
        refine thenQ_e ?_
        refine thenQ_e ?_
        refine blockQ_e ?_
        refine thenQ_n ?_
        refine ws 322 386 ?_
        refine qp (AB true) rfl ?_
        refine r_nil ?_
        refine w_ret ?_
        cases hF
        exact eR

def c170 : MC := (.seq (.reg [rg 4 (.p true (.mv (.c (.bool false))))]) (.seq (.seq (.reg [rg 6 (.p true (.mv (.t 0))), rg 7 (.p true (.len (.t 6))), rg 8 (.p true (.mv (.t 1))), rg 9 (.p true (.len (.t 8))), rg 10 (.p true (.bin .neq (.t 7) (.t 9)))]) (.cond (.t 10) (.seq (.reg [rg 4 (.p true (.mv (.c (.bool false))))]) .ret) .skip)) (.seq (.seq (.reg [rg 5 (.p true (.mv (.c (.int .i64 0))))]) (.block 0 (.loop (.seq (.seq (.reg [rg 11 (.p true (.mv (.t 5))), rg 12 (.p true (.mv (.t 0))), rg 13 (.p true (.len (.t 12))), rg 14 (.p true (.bin .lss (.t 11) (.t 13)))]) (.cond (.t 14) .skip (.exit 0))) (.seq (.block 1 (.seq (.reg [rg 17 (.p false (.mv (.t 0))), rg 18 (.p false (.mv (.t 5))), rg 19 (.p false (.iad (.t 17) (.t 18) 2)), rg 20 (.p false (.ld (.t 19) 2 true)), rg 21 (.p false (.mv (.t 1))), rg 22 (.p false (.mv (.t 5))), rg 23 (.p false (.iad (.t 21) (.t 22) 2)), rg 24 (.p false (.ld (.t 23) 2 true)), rg 25 (.p false (.eqs true [0, 0] (.t 20) (.t 24)))]) (.cond (.t 25) (.seq (.reg [rg 4 (.p true (.mv (.c (.bool false))))]) .ret) .skip))) (.reg [rg 15 (.p true (.mv (.t 5))), rg 16 (.p true (.bin .add (.t 15) (.c (.int .i64 1)))), rg 5 (.p true (.mv (.t 16)))])))))) (.seq (.reg [rg 4 (.p true (.mv (.c (.bool true))))]) .ret))))
theorem c170_is : compFn Try.prog 170 = some (c170, [(.tmp 4)]) := by kernel_rfl
theorem c170_ok : okFn Try.prog 170 = true := by kernel_rfl

noncomputable def F_spec_l09Same_l0 (v0 : List TNote) (v1 : List TNote) (k0 : Int → Option (Bool)) : Int → Option (Bool)
 | v7 => (bif (decide (v7 < (v0.length : Int))) then ((ix v0 v7).bind fun v1000 => ((ix v1 v7).bind fun v1001 => (bif (!(decide (v1000.1 = v1001.1) && (decide (v1000.2 = v1001.2) && true))) then some false
 else k0 (w64 (v7 + 1)))))
 else some true)
noncomputable def F_spec_l09Same (v0 : List TNote) (v1 : List TNote) : Option (Bool) :=
 (bif (decide ((v0.length : Int) ≠ (v1.length : Int))) then some false
 else loop (F_spec_l09Same_l0 v0 v1) 0)
@[simp] def res_spec_l09Same (r : Bool) : RV := .one (.one (.val (.bool r)))
theorem con_spec_l09Same {v0 : List TNote} {v1 : List TNote} {r : Bool} (hF : F_spec_l09Same v0 v1 = some r) : Con Try.prog 170 [.sl 2 (v0.map eNote), .sl 2 (v1.map eNote)] (res_spec_l09Same r) := by
 unfold F_spec_l09Same at hF
 refine con_of c170_is fun N => ?_
 refine ws 0 64 ?_
 refine qp (AB false) rfl ?_
 refine r_nil ?_
 refine w_seq ?_
 refine ws 64 384 ?_
 refine qp (AL 2 (v0.map eNote)) rfl (qp (AI (v0.length : Int)) (ev_len_n rfl) (qp (AL 2 (v1.map eNote)) rfl (qp (AI (v1.length : Int)) (ev_len_n rfl) (qp (AB (decide ((v0.length : Int) ≠ (v1.length : Int)))) rfl ?_))))
 refine r_nil ?_
 refine cF hF (fun hF => ?_) fun hF => ?_
 ·
  refine ws 384 448 ?_
  refine qp (AB false) rfl ?_
  refine r_nil ?_
  refine w_ret ?_
  refine thenQ_r ?_
  cases hF
  exact eR
 ·
  refine w_skip ?_
  refine thenQ_n ?_
  refine w_seq ?_
  refine ws 384 448 ?_
  refine qp (AI 0) rfl ?_
  refine r_nil ?_
  refine w_block ?_
  refine wr (l' := [(0, AL 2 (v0.map eNote)), (1, AL 2 (v1.map eNote)), (5, AI 0)]) (L := []) [0, 1, 5] [] 1 ?_
  refine w_loopF (F_spec_l09Same_l0 v0 v1) (fun s : Int => mkS [(0, AL 2 (v0.map eNote)), (1, AL 2 (v1.map eNote)), (5, AI s)] (fo []) 1) hF ?_
  rintro k0 v7 hF
  rw [F_spec_l09Same_l0] at hF
  try dsimp only
  refine w_seq ?_
  refine ws 1 257 ?_
  refine qp (AI v7) rfl (qp (AL 2 (v0.map eNote)) rfl (qp (AI (v0.length : Int)) (ev_len_n rfl) (qp (AB (decide (v7 < (v0.length : Int)))) rfl ?_)))
  refine r_nil ?_
  refine cF hF (fun hF => ?_) fun hF => ?_
  ·
   refine w_skip ?_
   refine thenQ_n ?_
   refine w_seq ?_
   refine w_block ?_
   refine ws 257 833 ?_
   refine qp (AL 2 (v0.map eNote)) rfl (qp (AI v7) rfl ?_)
   obtain ⟨v1000, e1000, hF⟩ := bind_get hF
   refine qp (.val none (.ptr [.int .i64 v1000.1, .int .i64 v1000.2])) (ev_iad_n rfl rfl e1000 rfl) (qp (.val none (eNote v1000)) rfl (qp (AL 2 (v1.map eNote)) rfl (qp (AI v7) rfl ?_)))
   obtain ⟨v1001, e1001, hF⟩ := bind_get hF
   refine qp (.val none (.ptr [.int .i64 v1001.1, .int .i64 v1001.2])) (ev_iad_n rfl rfl e1001 rfl) (qp (.val none (eNote v1001)) rfl (qp (AB (!(decide (v1000.1 = v1001.1) && (decide (v1000.2 = v1001.2) && true)))) rfl ?_))
   refine r_nil ?_
   refine cF hF (fun hF => ?_) fun hF => ?_
   ·
    refine ws 833 897 ?_
    refine qp (AB false) rfl ?_
    refine r_nil ?_
    refine w_ret ?_
    refine blockQ_r ?_
    refine thenQ_r ?_
    refine thenQ_r ?_
    refine blockQ_r ?_
    refine thenQ_r ?_
    cases hF
    exact eR
   ·
    refine w_skip ?_
    refine blockQ_n ?_
    refine thenQ_n ?_
    refine w_reg 833 1025 rfl rfl ?_
    refine qp (AI v7) rfl (qp (AI (w64 (v7 + 1))) rfl (qp (AI (w64 (v7 + 1))) rfl ?_))
    refine r_nil ?_
    refine thenQ_n ?_
    refine ar (l' := [(0, AL 2 (v0.map eNote)), (1, AL 2 (v1.map eNote)), (5, AI (w64 (v7 + 1)))]) (L := []) [0, 1, 5] [] 1 ⟨_, by rfl, hF⟩
  ·
   refine w_exit ?_
   refine thenQ_e ?_
   refine thenQ_e ?_
   refine blockQ_e ?_
   refine thenQ_n ?_
   refine ws 257 321 ?_
   refine qp (AB true) rfl ?_
   refine r_nil ?_
   refine w_ret ?_
   cases hF
   exact eR

def c64 : MC := (.seq (.reg [rg 4 (.p true (.mv (.c (.bool false))))]) (.seq (.reg [rg 5 (.p true (.mv (.t 0))), rg 6 (.p true (.mv (.t 1))), rg 7 (.call true 170 [(.t 5), (.t 6)]), rg 4 (.p true (.mv (.t 7)))]) .ret))
theorem c64_is : compFn Try.prog 64 = some (c64, [(.tmp 4)]) := by kernel_rfl
theorem c64_ok : okFn Try.prog 64 = true := by kernel_rfl

noncomputable def F_spec_SameMelody (v0 : List TNote) (v1 : List TNote) : Option (Bool) :=
 ((F_spec_l09Same v0 v1).bind fun v1000 => some v1000)
@[simp] def res_spec_SameMelody (r : Bool) : RV := .one (.one (.val (.bool r)))
theorem con_spec_SameMelody {v0 : List TNote} {v1 : List TNote} {r : Bool} (hF : F_spec_SameMelody v0 v1 = some r) : Con Try.prog 64 [.sl 2 (v0.map eNote), .sl 2 (v1.map eNote)] (res_spec_SameMelody r) := by
 unfold F_spec_SameMelody at hF
 refine con_of c64_is fun N => ?_
 refine ws 0 64 ?_
 refine qp (AB false) rfl ?_
 refine r_nil ?_
 refine ws 64 320 ?_
 refine qp (AL 2 (v0.map eNote)) rfl (qp (AL 2 (v1.map eNote)) rfl ?_)
 obtain ⟨v1000, e1000, hF⟩ := bind_get hF
 refine qc (AB v1000) [] false (con_spec_l09Same e1000) c170_ok (by first | rfl | simp) rfl ?_
 refine qp (AB v1000) rfl ?_
 refine r_nil ?_
 refine w_ret ?_
 cases hF
 exact eR

def c65 : MC := (.seq (.reg [rg 2 (.f (.box (.t 0))), rg 3 (.f (.box (.t 1))), rg 4 (.p true (.mv (.c (.bool false))))]) (.seq (.seq (.reg [rg 6 (.p true (.fad (.t 2) 0)), rg 7 (.p true (.ld (.t 6) 1 false)), rg 8 (.p true (.fad (.t 3) 0)), rg 9 (.p true (.ld (.t 8) 1 false)), rg 10 (.p true (.bin .neq (.t 7) (.t 9))), rg 11 (.p true (.mv (.t 10))), ⟨(some 12), (some (11, false)), (.p true (.fad (.t 2) 1))⟩, ⟨(some 13), (some (11, false)), (.p true (.ld (.t 12) 1 false))⟩, ⟨(some 14), (some (11, false)), (.p true (.len (.t 13)))⟩, ⟨(some 15), (some (11, false)), (.p true (.fad (.t 3) 1))⟩, ⟨(some 16), (some (11, false)), (.p true (.ld (.t 15) 1 false))⟩, ⟨(some 17), (some (11, false)), (.p true (.len (.t 16)))⟩, ⟨(some 18), (some (11, false)), (.p true (.bin .neq (.t 14) (.t 17)))⟩, rg 19 (.p true (.pick (.t 11) (.c (.bool true)) (.t 18)))]) (.cond (.t 19) (.seq (.reg [rg 4 (.p true (.mv (.c (.bool false))))]) .ret) .skip)) (.seq (.seq (.reg [rg 5 (.p true (.mv (.c (.int .i64 0))))]) (.block 0 (.loop (.seq (.seq (.reg [rg 20 (.p true (.mv (.t 5))), rg 21 (.p true (.fad (.t 2) 1)), rg 22 (.p true (.ld (.t 21) 1 false)), rg 23 (.p true (.len (.t 22))), rg 24 (.p true (.bin .lss (.t 20) (.t 23)))]) (.cond (.t 24) .skip (.exit 0))) (.seq (.block 1 (.seq (.reg [rg 27 (.p false (.fad (.t 2) 1)), rg 28 (.p false (.ld (.t 27) 1 false)), rg 29 (.p false (.mv (.t 5))), rg 30 (.p false (.iad (.t 28) (.t 29) 2)), rg 31 (.p false (.ld (.t 30) 2 true)), rg 32 (.p false (.fad (.t 3) 1)), rg 33 (.p false (.ld (.t 32) 1 false)), rg 34 (.p false (.mv (.t 5))), rg 35 (.p false (.iad (.t 33) (.t 34) 2)), rg 36 (.p false (.ld (.t 35) 2 true)), rg 37 (.p false (.eqs true [0, 0] (.t 31) (.t 36)))]) (.cond (.t 37) (.seq (.reg [rg 4 (.p true (.mv (.c (.bool false))))]) .ret) .skip))) (.reg [rg 25 (.p true (.mv (.t 5))), rg 26 (.p true (.bin .add (.t 25) (.c (.int .i64 1)))), rg 5 (.p true (.mv (.t 26)))])))))) (.seq (.reg [rg 4 (.p true (.mv (.c (.bool true))))]) .ret))))
theorem c65_is : compFn Try.prog 65 = some (c65, [(.tmp 4)]) := by kernel_rfl
theorem c65_ok : okFn Try.prog 65 = true := by kernel_rfl

noncomputable def F_spec_SameTuning_l0 (v0 : TTuning) (v1 : TTuning) (k0 : Int → Option (Bool)) : Int → Option (Bool)
 | v7 => (bif (decide (v7 < (v0.2.length : Int))) then ((ix v0.2 v7).bind fun v1000 => ((ix v1.2 v7).bind fun v1001 => (bif (!(decide (v1000.1 = v1001.1) && (decide (v1000.2 = v1001.2) && true))) then some false
 else k0 (w64 (v7 + 1)))))
 else some true)
noncomputable def F_spec_SameTuning (v0 : TTuning) (v1 : TTuning) : Option (Bool) :=
 (bif (decide (v0.1 ≠ v1.1)) then some false
 else (bif (decide ((v0.2.length : Int) ≠ (v1.2.length : Int))) then some false
 else loop (F_spec_SameTuning_l0 v0 v1) 0))
@[simp] def res_spec_SameTuning (r : Bool) : RV := .one (.one (.val (.bool r)))
theorem con_spec_SameTuning {v0 : TTuning} {v1 : TTuning} {r : Bool} (hF : F_spec_SameTuning v0 v1 = some r) : Con Try.prog 65 [eTuning v0, eTuning v1] (res_spec_SameTuning r) := by
 unfold F_spec_SameTuning at hF
 refine con_of c65_is fun N => ?_
 refine ws 0 192 ?_
 refine qf (.ptr 0 0 0) [(0, .box [AS v0.1, AL 2 (v0.2.map eNote)])] (by simp) ?_
 refine qf (.ptr 64 0 0) [(64, .box [AS v1.1, AL 2 (v1.2.map eNote)]), (0, .box [AS v0.1, AL 2 (v0.2.map eNote)])] (by simp) ?_
 refine qp (AB false) rfl ?_
 refine r_nil ?_
 refine w_seq ?_
 refine ws 192 1088 ?_
 refine qp (.ptr 0 0 0) rfl (qp (AS v0.1) rfl (qp (.ptr 64 0 0) rfl (qp (AS v1.1) rfl (qp (AB (decide (v0.1 ≠ v1.1))) rfl (qp (AB (decide (v0.1 ≠ v1.1))) rfl ?_)))))
 refine q_case 11 hF rfl (fun hF => ?_) (fun hF => ?_)
 ·
  refine qn rfl (qn rfl (qn rfl (qn rfl (qn rfl (qn rfl (qn rfl (qp (AB true) rfl ?_)))))))
  refine r_nil ?_
  refine w_true rfl ?_
  refine ws 1088 1152 ?_
  refine qp (AB false) rfl ?_
  refine r_nil ?_
  refine w_ret ?_
  refine thenQ_r ?_
  cases hF
  exact eR
 ·
  refine qg (.ptr 0 0 1) rfl rfl (qg (AL 2 (v0.2.map eNote)) rfl rfl (qg (AI (v0.2.length : Int)) rfl (ev_len_n rfl) (qg (.ptr 64 0 1) rfl rfl (qg (AL 2 (v1.2.map eNote)) rfl rfl (qg (AI (v1.2.length : Int)) rfl (ev_len_n rfl) (qg (AB (decide ((v0.2.length : Int) ≠ (v1.2.length : Int)))) rfl rfl (qp (AB (decide ((v0.2.length : Int) ≠ (v1.2.length : Int)))) rfl ?_)))))))
  refine r_nil ?_
  refine cF hF (fun hF => ?_) fun hF => ?_
  ·
   refine ws 1088 1152 ?_
   refine qp (AB false) rfl ?_
   refine r_nil ?_
   refine w_ret ?_
   refine thenQ_r ?_
   cases hF
   exact eR
  ·
   refine w_skip ?_
   refine thenQ_n ?_
   refine w_seq ?_
   refine ws 1088 1152 ?_
   refine qp (AI 0) rfl ?_
   refine r_nil ?_
   refine w_block ?_
   refine wr (l' := [(2, .ptr 0 0 0), (3, .ptr 1 0 0), (5, AI 0)]) (L := [(1, .box [AS v1.1, AL 2 (v1.2.map eNote)]), (0, .box [AS v0.1, AL 2 (v0.2.map eNote)])]) [2, 3, 5] [(64, 1), (0, 0)] 2 ?_
   refine w_loopF (F_spec_SameTuning_l0 v0 v1) (fun s : Int => mkS [(2, .ptr 0 0 0), (3, .ptr 1 0 0), (5, AI s)] (fo [(1, .box [AS v1.1, AL 2 (v1.2.map eNote)]), (0, .box [AS v0.1, AL 2 (v0.2.map eNote)])]) 2) hF ?_
   rintro k0 v7 hF
   rw [F_spec_SameTuning_l0] at hF
   try dsimp only
   refine w_seq ?_
   refine ws 2 322 ?_
   refine qp (AI v7) rfl (qp (.ptr 0 0 1) rfl (qp (AL 2 (v0.2.map eNote)) rfl (qp (AI (v0.2.length : Int)) (ev_len_n rfl) (qp (AB (decide (v7 < (v0.2.length : Int)))) rfl ?_))))
   refine r_nil ?_
   refine cF hF (fun hF => ?_) fun hF => ?_
   ·
    refine w_skip ?_
    refine thenQ_n ?_
    refine w_seq ?_
    refine w_block ?_
    refine ws 322 1026 ?_
    refine qp (.ptr 0 0 1) rfl (qp (AL 2 (v0.2.map eNote)) rfl (qp (AI v7) rfl ?_))
    obtain ⟨v1000, e1000, hF⟩ := bind_get hF
    refine qp (.val none (.ptr [.int .i64 v1000.1, .int .i64 v1000.2])) (ev_iad_n rfl rfl e1000 rfl) (qp (.val none (eNote v1000)) rfl (qp (.ptr 1 0 1) rfl (qp (AL 2 (v1.2.map eNote)) rfl (qp (AI v7) rfl ?_))))
    obtain ⟨v1001, e1001, hF⟩ := bind_get hF
    refine qp (.val none (.ptr [.int .i64 v1001.1, .int .i64 v1001.2])) (ev_iad_n rfl rfl e1001 rfl) (qp (.val none (eNote v1001)) rfl (qp (AB (!(decide (v1000.1 = v1001.1) && (decide (v1000.2 = v1001.2) && true)))) rfl ?_))
    refine r_nil ?_
    refine cF hF (fun hF => ?_) fun hF => ?_
    ·
     refine ws 1026 1090 ?_
     refine qp (AB false) rfl ?_
     refine r_nil ?_
     refine w_ret ?_
     refine blockQ_r ?_
     refine thenQ_r ?_
     refine thenQ_r ?_
     refine blockQ_r ?_
     refine thenQ_r ?_
     cases hF
     exact eR
    ·
     refine w_skip ?_
     refine blockQ_n ?_
     refine thenQ_n ?_
     refine w_reg 1026 1218 rfl rfl ?_
     refine qp (AI v7) rfl (qp (AI (w64 (v7 + 1))) rfl (qp (AI (w64 (v7 + 1))) rfl ?_))
     refine r_nil ?_
     refine thenQ_n ?_
     refine ar (l' := [(2, .ptr 0 0 0), (3, .ptr 1 0 0), (5, AI (w64 (v7 + 1)))]) (L := [(1, .box [AS v1.1, AL 2 (v1.2.map eNote)]), (0, .box [AS v0.1, AL 2 (v0.2.map eNote)])]) [2, 3, 5] [(1, 1), (0, 0)] 2 ⟨_, by rfl, hF⟩
   ·
    refine w_exit ?_
    refine thenQ_e ?_
    refine thenQ_e ?_
    refine blockQ_e ?_
    refine thenQ_n ?_
    refine ws 322 386 ?_
    refine qp (AB true) rfl ?_
    refine r_nil ?_
    refine w_ret ?_
    cases hF
    exact eR

def c66 : MC := (.seq (.reg [rg 4 (.p true (.mv (.c (.bool false))))]) (.seq (.seq (.reg [rg 7 (.p true (.mv (.t 0))), rg 8 (.p true (.len (.t 7))), rg 9 (.p true (.mv (.t 1))), rg 10 (.p true (.len (.t 9))), rg 11 (.p true (.bin .neq (.t 8) (.t 10)))]) (.cond (.t 11) (.seq (.reg [rg 4 (.p true (.mv (.c (.bool false))))]) .ret) .skip)) (.seq (.seq (.reg [rg 5 (.p true (.mv (.c (.int .i64 0))))]) (.block 0 (.loop (.seq (.seq (.reg [rg 12 (.p true (.mv (.t 5))), rg 13 (.p true (.mv (.t 0))), rg 14 (.p true (.len (.t 13))), rg 15 (.p true (.bin .lss (.t 12) (.t 14)))]) (.cond (.t 15) .skip (.exit 0))) (.seq (.block 1 (.seq (.seq (.reg [rg 18 (.p false (.mv (.t 0))), rg 19 (.p false (.mv (.t 5))), rg 20 (.p false (.iad (.t 18) (.t 19) 3)), rg 21 (.p false (.fad (.t 20) 0)), rg 22 (.p false (.ld (.t 21) 1 false)), rg 23 (.p false (.mv (.t 1))), rg 24 (.p false (.mv (.t 5))), rg 25 (.p false (.iad (.t 23) (.t 24) 3)), rg 26 (.p false (.fad (.t 25) 0)), rg 27 (.p false (.ld (.t 26) 1 false)), rg 28 (.p false (.bin .neq (.t 22) (.t 27))), rg 29 (.p false (.mv (.t 28))), ⟨(some 30), (some (29, false)), (.p false (.mv (.t 0)))⟩, ⟨(some 31), (some (29, false)), (.p false (.mv (.t 5)))⟩, ⟨(some 32), (some (29, false)), (.p false (.iad (.t 30) (.t 31) 3))⟩, ⟨(some 33), (some (29, false)), (.p false (.fad (.t 32) 1))⟩, ⟨(some 34), (some (29, false)), (.p false (.ld (.t 33) 1 false))⟩, ⟨(some 35), (some (29, false)), (.p false (.mv (.t 1)))⟩, ⟨(some 36), (some (29, false)), (.p false (.mv (.t 5)))⟩, ⟨(some 37), (some (29, false)), (.p false (.iad (.t 35) (.t 36) 3))⟩, ⟨(some 38), (some (29, false)), (.p false (.fad (.t 37) 1))⟩, ⟨(some 39), (some (29, false)), (.p false (.ld (.t 38) 1 false))⟩, ⟨(some 40), (some (29, false)), (.p false (.bin .neq (.t 34) (.t 39)))⟩, rg 41 (.p false (.pick (.t 29) (.c (.bool true)) (.t 40))), rg 42 (.p false (.mv (.t 41))), ⟨(some 43), (some (42, false)), (.p false (.mv (.t 0)))⟩, ⟨(some 44), (some (42, false)), (.p false (.mv (.t 5)))⟩, ⟨(some 45), (some (42, false)), (.p false (.iad (.t 43) (.t 44) 3))⟩, ⟨(some 46), (some (42, false)), (.p false (.fad (.t 45) 2))⟩, ⟨(some 47), (some (42, false)), (.p false (.ld (.t 46) 1 false))⟩, ⟨(some 48), (some (42, false)), (.p false (.len (.t 47)))⟩, ⟨(some 49), (some (42, false)), (.p false (.mv (.t 1)))⟩, ⟨(some 50), (some (42, false)), (.p false (.mv (.t 5)))⟩, ⟨(some 51), (some (42, false)), (.p false (.iad (.t 49) (.t 50) 3))⟩, ⟨(some 52), (some (42, false)), (.p false (.fad (.t 51) 2))⟩, ⟨(some 53), (some (42, false)), (.p false (.ld (.t 52) 1 false))⟩, ⟨(some 54), (some (42, false)), (.p false (.len (.t 53)))⟩, ⟨(some 55), (some (42, false)), (.p false (.bin .neq (.t 48) (.t 54)))⟩, rg 56 (.p false (.pick (.t 42) (.c (.bool true)) (.t 55)))]) (.cond (.t 56) (.seq (.reg [rg 4 (.p true (.mv (.c (.bool false))))]) .ret) .skip)) (.seq (.reg [rg 6 (.p true (.mv (.c (.int .i64 0))))]) (.block 2 (.loop (.seq (.seq (.reg [rg 57 (.p true (.mv (.t 6))), rg 58 (.p true (.mv (.t 0))), rg 59 (.p true (.mv (.t 5))), rg 60 (.p true (.iad (.t 58) (.t 59) 3)), rg 61 (.p true (.fad (.t 60) 2)), rg 62 (.p true (.ld (.t 61) 1 false)), rg 63 (.p true (.len (.t 62))), rg 64 (.p true (.bin .lss (.t 57) (.t 63)))]) (.cond (.t 64) .skip (.exit 2))) (.seq (.block 3 (.seq (.reg [rg 67 (.p false (.mv (.t 0))), rg 68 (.p false (.mv (.t 5))), rg 69 (.p false (.iad (.t 67) (.t 68) 3)), rg 70 (.p false (.fad (.t 69) 2)), rg 71 (.p false (.ld (.t 70) 1 false)), rg 72 (.p false (.mv (.t 6))), rg 73 (.p false (.iad (.t 71) (.t 72) 1)), rg 74 (.p false (.ld (.t 73) 1 false)), rg 75 (.p false (.mv (.t 1))), rg 76 (.p false (.mv (.t 5))), rg 77 (.p false (.iad (.t 75) (.t 76) 3)), rg 78 (.p false (.fad (.t 77) 2)), rg 79 (.p false (.ld (.t 78) 1 false)), rg 80 (.p false (.mv (.t 6))), rg 81 (.p false (.iad (.t 79) (.t 80) 1)), rg 82 (.p false (.ld (.t 81) 1 false)), rg 83 (.p false (.bin .neq (.t 74) (.t 82)))]) (.cond (.t 83) (.seq (.reg [rg 4 (.p true (.mv (.c (.bool false))))]) .ret) .skip))) (.reg [rg 65 (.p true (.mv (.t 6))), rg 66 (.p true (.bin .add (.t 65) (.c (.int .i64 1)))), rg 6 (.p true (.mv (.t 66)))])))))))) (.reg [rg 16 (.p true (.mv (.t 5))), rg 17 (.p true (.bin .add (.t 16) (.c (.int .i64 1)))), rg 5 (.p true (.mv (.t 17)))])))))) (.seq (.reg [rg 4 (.p true (.mv (.c (.bool true))))]) .ret))))
theorem c66_is : compFn Try.prog 66 = some (c66, [(.tmp 4)]) := by kernel_rfl
theorem c66_ok : okFn Try.prog 66 = true := by kernel_rfl

noncomputable def F_spec_SamePersons_l1 (v0 : List TPerson) (v1 : List TPerson) (v61 : Int) (k2 : Int → Option (Bool)) (k4 : Int → Option (Bool)) : Int → Option (Bool)
 | v1017 => ((ix v0 v61).bind fun v1018 => (bif (decide (v1017 < (v1018.2.2.length : Int))) then ((ix v0 v61).bind fun v1019 => ((ix v1019.2.2 v1017).bind fun v1020 => ((ix v1 v61).bind fun v1021 => ((ix v1021.2.2 v1017).bind fun v1022 => (bif (decide (v1020 ≠ v1022)) then some false
 else k4 (w64 (v1017 + 1)))))))
 else k2 (w64 (v61 + 1))))
noncomputable def F_spec_SamePersons_l0 (v0 : List TPerson) (v1 : List TPerson) (k2 : Int → Option (Bool)) : Int → Option (Bool)
 | v61 => (bif (decide (v61 < (v0.length : Int))) then ((ix v0 v61).bind fun v1000 => ((ix v1 v61).bind fun v1001 => (bif (decide (v1000.1 ≠ v1001.1)) then some false
 else ((ix v0 v61).bind fun v1002 => ((ix v1 v61).bind fun v1003 => (bif (decide (v1002.2.1 ≠ v1003.2.1)) then some false
 else ((ix v0 v61).bind fun v1004 => ((ix v1 v61).bind fun v1005 => (bif (decide ((v1004.2.2.length : Int) ≠ (v1005.2.2.length : Int))) then some false
 else loop (F_spec_SamePersons_l1 v0 v1 v61 k2) 0)))))))))
 else some true)
noncomputable def F_spec_SamePersons (v0 : List TPerson) (v1 : List TPerson) : Option (Bool) :=
 (bif (decide ((v0.length : Int) ≠ (v1.length : Int))) then some false
 else loop (F_spec_SamePersons_l0 v0 v1) 0)
@[simp] def res_spec_SamePersons (r : Bool) : RV := .one (.one (.val (.bool r)))
theorem con_spec_SamePersons {v0 : List TPerson} {v1 : List TPerson} {r : Bool} (hF : F_spec_SamePersons v0 v1 = some r) : Con Try.prog 66 [.sl 3 (v0.map ePerson), .sl 3 (v1.map ePerson)] (res_spec_SamePersons r) := by
 unfold F_spec_SamePersons at hF
 refine con_of c66_is fun N => ?_
 refine ws 0 64 ?_
 refine qp (AB false) rfl ?_
 refine r_nil ?_
 refine w_seq ?_
 refine ws 64 384 ?_
 refine qp (AL 3 (v0.map ePerson)) rfl (qp (AI (v0.length : Int)) (ev_len_n rfl) (qp (AL 3 (v1.map ePerson)) rfl (qp (AI (v1.length : Int)) (ev_len_n rfl) (qp (AB (decide ((v0.length : Int) ≠ (v1.length : Int)))) rfl ?_))))
 refine r_nil ?_
 refine cF hF (fun hF => ?_) fun hF => ?_
 ·
  refine ws 384 448 ?_
  refine qp (AB false) rfl ?_
  refine r_nil ?_
  refine w_ret ?_
  refine thenQ_r ?_
  cases hF
  exact eR
 ·
  refine w_skip ?_
  refine thenQ_n ?_
  refine w_seq ?_
  refine ws 384 448 ?_
  refine qp (AI 0) rfl ?_
  refine r_nil ?_
  refine w_block ?_
  refine wr (l' := [(0, AL 3 (v0.map ePerson)), (1, AL 3 (v1.map ePerson)), (5, AI 0)]) (L := []) [0, 1, 5] [] 1 ?_
  refine w_loopF (F_spec_SamePersons_l0 v0 v1) (fun s : Int => mkS [(0, AL 3 (v0.map ePerson)), (1, AL 3 (v1.map ePerson)), (5, AI s)] (fo []) 1) hF ?_
  rintro k2 v61 hF
  rw [F_spec_SamePersons_l0] at hF
  try dsimp only
  refine w_seq ?_
  refine ws 1 257 ?_
  refine qp (AI v61) rfl (qp (AL 3 (v0.map ePerson)) rfl (qp (AI (v0.length : Int)) (ev_len_n rfl) (qp (AB (decide (v61 < (v0.length : Int)))) rfl ?_)))
  refine r_nil ?_
  refine cF hF (fun hF => ?_) fun hF => ?_
  ·
   refine w_skip ?_
   refine thenQ_n ?_
   refine w_seq ?_
   refine w_block ?_
   refine w_seq ?_
   refine ws 257 2753 ?_
   refine qp (AL 3 (v0.map ePerson)) rfl (qp (AI v61) rfl ?_)
   obtain ⟨v1000, e1000, hF⟩ := bind_get hF
   refine qp (.val none (.ptr [.str v1000.1, .int .i64 v1000.2.1, .sl 1 (v1000.2.2.map V.str)])) (ev_iad_n rfl rfl e1000 rfl) (qp (.val none (.ptr [.str v1000.1, .int .i64 v1000.2.1, .sl 1 (v1000.2.2.map V.str)])) rfl (qp (AS v1000.1) rfl (qp (AL 3 (v1.map ePerson)) rfl (qp (AI v61) rfl ?_))))
   obtain ⟨v1001, e1001, hF⟩ := bind_get hF
   refine qp (.val none (.ptr [.str v1001.1, .int .i64 v1001.2.1, .sl 1 (v1001.2.2.map V.str)])) (ev_iad_n rfl rfl e1001 rfl) (qp (.val none (.ptr [.str v1001.1, .int .i64 v1001.2.1, .sl 1 (v1001.2.2.map V.str)])) rfl (qp (AS v1001.1) rfl (qp (AB (decide (v1000.1 ≠ v1001.1))) rfl (qp (AB (decide (v1000.1 ≠ v1001.1))) rfl ?_))))
   refine q_case 29 hF rfl (fun hF => ?_) (fun hF => ?_)
   ·
    refine qn rfl (qn rfl (qn rfl (qn rfl (qn rfl (qn rfl (qn rfl (qn rfl ?_)))))))
    refine qn rfl (qn rfl (qn rfl (qp (AB true) rfl (qp (AB true) rfl (qn rfl (qn rfl (qn rfl ?_)))))))
    refine qn rfl (qn rfl (qn rfl (qn rfl (qn rfl (qn rfl (qn rfl (qn rfl ?_)))))))
    refine qn rfl (qn rfl (qp (AB true) rfl ?_))
    refine r_nil ?_
    refine w_true rfl ?_
    refine ws 2753 2817 ?_
    refine qp (AB false) rfl ?_
    refine r_nil ?_
    refine w_ret ?_
    refine thenQ_r ?_
    refine blockQ_r ?_
    refine thenQ_r ?_
    refine thenQ_r ?_
    refine blockQ_r ?_
    refine thenQ_r ?_
    cases hF
    exact eR
   ·
    refine qg (AL 3 (v0.map ePerson)) rfl rfl (qg (AI v61) rfl rfl ?_)
    obtain ⟨v1002, e1002, hF⟩ := bind_get hF
    refine qg (.val none (.ptr [.str v1002.1, .int .i64 v1002.2.1, .sl 1 (v1002.2.2.map V.str)])) rfl (ev_iad_n rfl rfl e1002 rfl) (qg (.val none (.ptr [.int .i64 v1002.2.1, .sl 1 (v1002.2.2.map V.str)])) rfl rfl (qg (AI v1002.2.1) rfl rfl (qg (AL 3 (v1.map ePerson)) rfl rfl (qg (AI v61) rfl rfl ?_))))
    obtain ⟨v1003, e1003, hF⟩ := bind_get hF
    refine qg (.val none (.ptr [.str v1003.1, .int .i64 v1003.2.1, .sl 1 (v1003.2.2.map V.str)])) rfl (ev_iad_n rfl rfl e1003 rfl) (qg (.val none (.ptr [.int .i64 v1003.2.1, .sl 1 (v1003.2.2.map V.str)])) rfl rfl (qg (AI v1003.2.1) rfl rfl (qg (AB (decide (v1002.2.1 ≠ v1003.2.1))) rfl rfl (qp (AB (decide (v1002.2.1 ≠ v1003.2.1))) rfl (qp (AB (decide (v1002.2.1 ≠ v1003.2.1))) rfl ?_)))))
    refine q_case 42 hF rfl (fun hF => ?_) (fun hF => ?_)
    ·
     refine qn rfl (qn rfl (qn rfl (qn rfl (qn rfl (qn rfl (qn rfl (qn rfl ?_)))))))
     refine qn rfl (qn rfl (qn rfl (qn rfl (qn rfl (qp (AB true) rfl ?_)))))
     refine r_nil ?_
     refine w_true rfl ?_
     refine ws 2753 2817 ?_
     refine qp (AB false) rfl ?_
     refine r_nil ?_
     refine w_ret ?_
     refine thenQ_r ?_
     refine blockQ_r ?_
     refine thenQ_r ?_
     refine thenQ_r ?_
     refine blockQ_r ?_
     refine thenQ_r ?_
     cases hF
     exact eR
    ·
     refine qg (AL 3 (v0.map ePerson)) rfl rfl (qg (AI v61) rfl rfl ?_)
     obtain ⟨v1004, e1004, hF⟩ := bind_get hF
     refine qg (.val none (.ptr [.str v1004.1, .int .i64 v1004.2.1, .sl 1 (v1004.2.2.map V.str)])) rfl (ev_iad_n rfl rfl e1004 rfl) (qg (.val none (.ptr [.sl 1 (v1004.2.2.map V.str)])) rfl rfl (qg (AL 1 (v1004.2.2.map V.str)) rfl rfl (qg (AI (v1004.2.2.length : Int)) rfl (ev_len_n rfl) (qg (AL 3 (v1.map ePerson)) rfl rfl (qg (AI v61) rfl rfl ?_)))))
     obtain ⟨v1005, e1005, hF⟩ := bind_get hF
     refine qg (.val none (.ptr [.str v1005.1, .int .i64 v1005.2.1, .sl 1 (v1005.2.2.map V.str)])) rfl (ev_iad_n rfl rfl e1005 rfl) (qg (.val none (.ptr [.sl 1 (v1005.2.2.map V.str)])) rfl rfl (qg (AL 1 (v1005.2.2.map V.str)) rfl rfl (qg (AI (v1005.2.2.length : Int)) rfl (ev_len_n rfl) (qg (AB (decide ((v1004.2.2.length : Int) ≠ (v1005.2.2.length : Int)))) rfl rfl (qp (AB (decide ((v1004.2.2.length : Int) ≠ (v1005.2.2.length : Int)))) rfl ?_)))))
     refine r_nil ?_
     refine cF hF (fun hF => ?_) fun hF => ?_
     ·
      refine ws 2753 2817 ?_
      refine qp (AB false) rfl ?_
      refine r_nil ?_
      refine w_ret ?_
      refine thenQ_r ?_
      refine blockQ_r ?_
      refine thenQ_r ?_
      refine thenQ_r ?_
      refine blockQ_r ?_
      refine thenQ_r ?_
      cases hF
      exact eR
     ·
      refine w_skip ?_
      refine thenQ_n ?_
      refine ws 2753 2817 ?_
      refine qp (AI 0) rfl ?_
      refine r_nil ?_
      refine w_block ?_
      refine wr (l' := [(0, AL 3 (v0.map ePerson)), (1, AL 3 (v1.map ePerson)), (5, AI v61), (6, AI 0)]) (L := []) [0, 1, 5, 6] [] 1 ?_
      refine w_loopF (F_spec_SamePersons_l1 v0 v1 v61 k2) (fun s : Int => mkS [(0, AL 3 (v0.map ePerson)), (1, AL 3 (v1.map ePerson)), (5, AI v61), (6, AI s)] (fo []) 1) hF ?_
      rintro k4 v1017 hF
      rw [F_spec_SamePersons_l1] at hF
      try dsimp only
      refine w_seq ?_
      refine ws 1 513 ?_
      refine qp (AI v1017) rfl (qp (AL 3 (v0.map ePerson)) rfl (qp (AI v61) rfl ?_))
      obtain ⟨v1018, e1018, hF⟩ := bind_get hF
      refine qp (.val none (.ptr [.str v1018.1, .int .i64 v1018.2.1, .sl 1 (v1018.2.2.map V.str)])) (ev_iad_n rfl rfl e1018 rfl) (qp (.val none (.ptr [.sl 1 (v1018.2.2.map V.str)])) rfl (qp (AL 1 (v1018.2.2.map V.str)) rfl (qp (AI (v1018.2.2.length : Int)) (ev_len_n rfl) (qp (AB (decide (v1017 < (v1018.2.2.length : Int)))) rfl ?_))))
      refine r_nil ?_
      refine cF hF (fun hF => ?_) fun hF => ?_
      ·
       refine w_skip ?_
       refine thenQ_n ?_
       refine w_seq ?_
       refine w_block ?_
       refine ws 513 1601 ?_
       refine qp (AL 3 (v0.map ePerson)) rfl (qp (AI v61) rfl ?_)
       obtain ⟨v1019, e1019, hF⟩ := bind_get hF
       refine qp (.val none (.ptr [.str v1019.1, .int .i64 v1019.2.1, .sl 1 (v1019.2.2.map V.str)])) (ev_iad_n rfl rfl e1019 rfl) (qp (.val none (.ptr [.sl 1 (v1019.2.2.map V.str)])) rfl (qp (AL 1 (v1019.2.2.map V.str)) rfl (qp (AI v1017) rfl ?_)))
       obtain ⟨v1020, e1020, hF⟩ := bind_get hF
       refine qp (.val none (.ptr [.str v1020])) (ev_iad_n rfl rfl e1020 rfl) (qp (AS v1020) rfl (qp (AL 3 (v1.map ePerson)) rfl (qp (AI v61) rfl ?_)))
       obtain ⟨v1021, e1021, hF⟩ := bind_get hF
       refine qp (.val none (.ptr [.str v1021.1, .int .i64 v1021.2.1, .sl 1 (v1021.2.2.map V.str)])) (ev_iad_n rfl rfl e1021 rfl) (qp (.val none (.ptr [.sl 1 (v1021.2.2.map V.str)])) rfl (qp (AL 1 (v1021.2.2.map V.str)) rfl (qp (AI v1017) rfl ?_)))
       obtain ⟨v1022, e1022, hF⟩ := bind_get hF
       refine qp (.val none (.ptr [.str v1022])) (ev_iad_n rfl rfl e1022 rfl) (qp (AS v1022) rfl (qp (AB (decide (v1020 ≠ v1022))) rfl ?_))
       refine r_nil ?_
       refine cF hF (fun hF => ?_) fun hF => ?_
       ·
        refine ws 1601 1665 ?_
        refine qp (AB false) rfl ?_
        refine r_nil ?_
        refine w_ret ?_
        refine blockQ_r ?_
        refine thenQ_r ?_
        refine thenQ_r ?_
        refine blockQ_r ?_
        refine blockQ_r ?_
        refine thenQ_r ?_
        refine thenQ_r ?_
        refine blockQ_r ?_
        refine thenQ_r ?_
        cases hF
        exact eR
       ·
        refine w_skip ?_
        refine blockQ_n ?_
        refine thenQ_n ?_
        refine w_reg 1601 1793 rfl rfl ?_
        refine qp (AI v1017) rfl (qp (AI (w64 (v1017 + 1))) rfl (qp (AI (w64 (v1017 + 1))) rfl ?_))
        refine r_nil ?_
        refine thenQ_n ?_
        refine ar (l' := [(0, AL 3 (v0.map ePerson)), (1, AL 3 (v1.map ePerson)), (5, AI v61), (6, AI (w64 (v1017 + 1)))]) (L := []) [0, 1, 5, 6] [] 1 ⟨_, by rfl, hF⟩
      ·
       refine w_exit ?_
       refine thenQ_e ?_
       refine thenQ_e ?_
       refine blockQ_e ?_
       refine blockQ_n ?_
       refine thenQ_n ?_
       refine w_reg 513 705 rfl rfl ?_
       refine qp (AI v61) rfl (qp (AI (w64 (v61 + 1))) rfl (qp (AI (w64 (v61 + 1))) rfl ?_))
       refine r_nil ?_
       refine thenQ_n ?_
       refine ar (l' := [(0, AL 3 (v0.map ePerson)), (1, AL 3 (v1.map ePerson)), (5, AI (w64 (v61 + 1)))]) (L := []) [0, 1, 5] [] 1 ⟨_, by rfl, hF⟩
  ·
   refine w_exit ?_
   refine thenQ_e ?_
   refine thenQ_e ?_
   refine blockQ_e ?_
   refine thenQ_n ?_
   refine ws 257 321 ?_
   refine qp (AB true) rfl ?_
   refine r_nil ?_
   refine w_ret ?_
   cases hF
   exact eR

end Go.Ab
